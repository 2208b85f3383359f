/-
  What functions of the program compute, as plain Lean functions (m_..), and proofs that they compute it (c_..). Printed by a program of the author; no conditions.
-/
import Derived.Test.YtgkofjmeopbkbaaFloat
import Derived.Test.YtgkofjmeopbkbaaProg
import Derived.Test.YtgkofjmeopbkbaaGraph
import Derived.Test.YtgkofjmeopbkbaaGraphFilledF2
set_option linter.unusedVariables false
namespace Go.Proofs.Ytgkofjmeopbkbaa
open Go Go.RowKit


set_option maxRecDepth 100000 in
theorem el3_5 : ElemOk Try.prog 3 1 8 := ⟨Try.t3, _, rfl, rfl, rfl, rfl, rfl⟩
set_option maxRecDepth 100000 in
theorem el22_5 : ElemOk Try.prog 22 1 24 := ⟨Try.t22, _, rfl, rfl, rfl, rfl, rfl⟩

def m_credencelaw15_GraphFilled_L1 (N : Nat)  : Nat → (List Int) → Int → Option Bool
  | 0, _, _ => none
  | n_31 + 1, left_34, i_38 => none

def m_credencelaw15_GraphFilled_J1 (N : Nat) (v_30 : Bool) : Option Bool :=
  if v_30 = true then (some false) else (m_credencelaw15_GraphFilled_L1 N N ([] : List Int) 0)

def m_credencelaw15_GraphFilled_L2 (N : Nat)  : Nat → (List Int) → Int → Option Bool
  | 0, _, _ => none
  | n_44 + 1, left_47, i_51 => none

def m_credencelaw15_GraphFilled_J2 (N : Nat) (v_43 : Bool) : Option Bool :=
  if v_43 = true then (some false) else (m_credencelaw15_GraphFilled_L2 N N ([] : List Int) 0)

def m_credencelaw15_GraphFilled_J4 (i_103 : Int) (kk_L4 : ((List Int) → (List (List Int)) → Int → (List (List Bool)) → Option Bool)) (left_108 : List Int) (cliques_112 : List (List Int)) (g_116 : List (List Bool)) : Option Bool :=
  kk_L4 left_108 cliques_112 (IntKind.i64.wrap (i_103 + 1)) g_116

def m_credencelaw15_GraphFilled_L5 (N : Nat) (left_95 : List Int) (cliques_99 : List (List Int)) (i_103 : Int) (kk_L4 : ((List Int) → (List (List Int)) → Int → (List (List Bool)) → Option Bool)) (k_120 : Int) (r_127 : ((List Int) × (List (Int × Int)) × List (List Bool))) : Nat → Int → Option Bool
  | 0, _ => none
  | n_152 + 1, j_155 => if (decide (j_155 < (r_127.2.1.length : Int))) = true then none else (chk ((cliques_99.length + [r_127.1].length) * 24 ≤ 140737488355328 ∧ cliques_99.length + [r_127.1].length ≤ maxLen) (chk ((0 : Int) ≤ k_120 ∧ k_120 ≤ (left_95.length : Int)) (chk ((([] : List Int).length + (left_95.take (Int.toNat k_120)).length) * 8 ≤ 140737488355328 ∧ ([] : List Int).length + (left_95.take (Int.toNat k_120)).length ≤ maxLen) (chk ((0 : Int) ≤ (IntKind.i64.wrap (k_120 + 1)) ∧ (IntKind.i64.wrap (k_120 + 1)) ≤ (left_95.length : Int)) (chk (((([] : List Int) ++ (left_95.take (Int.toNat k_120))).length + (left_95.drop (Int.toNat (IntKind.i64.wrap (k_120 + 1)))).length) * 8 ≤ 140737488355328 ∧ (([] : List Int) ++ (left_95.take (Int.toNat k_120))).length + (left_95.drop (Int.toNat (IntKind.i64.wrap (k_120 + 1)))).length ≤ maxLen) (m_credencelaw15_GraphFilled_J4 i_103 kk_L4 ((([] : List Int) ++ (left_95.take (Int.toNat k_120))) ++ (left_95.drop (Int.toNat (IntKind.i64.wrap (k_120 + 1))))) (cliques_99 ++ [r_127.1]) r_127.2.2))))))

def m_credencelaw15_GraphFilled_J6 (N : Nat) (left_95 : List Int) (cliques_99 : List (List Int)) (i_103 : Int) (kk_L4 : ((List Int) → (List (List Int)) → Int → (List (List Bool)) → Option Bool)) (k_120 : Int) (r_127 : ((List Int) × (List (Int × Int)) × List (List Bool))) (v_151 : Bool) : Option Bool :=
  if v_151 = true then (some false) else (m_credencelaw15_GraphFilled_L5 N left_95 cliques_99 i_103 kk_L4 k_120 r_127 N 0)

def m_credencelaw15_GraphFilled_J5 (N : Nat) (left_95 : List Int) (cliques_99 : List (List Int)) (i_103 : Int) (g_104 : List (List Bool)) (kk_L4 : ((List Int) → (List (List Int)) → Int → (List (List Bool)) → Option Bool)) (k_120 : Int) : Option Bool :=
  (at? left_95 k_120).bind fun e_121 => (m_graph_Graph_Fill g_104 e_121).bind fun r_123 => (m_graph_Graph_Remove N g_104 e_121).bind fun r_127 => if (!decide ((r_127.2.1.length : Int) = r_123)) = true then (m_credencelaw15_GraphFilled_J6 N left_95 cliques_99 i_103 kk_L4 k_120 r_127 true) else (if (decide ((r_127.1.length : Int) = 0)) = true then (m_credencelaw15_GraphFilled_J6 N left_95 cliques_99 i_103 kk_L4 k_120 r_127 true) else ((m_graph_Graph_Near r_127.2.2 e_121).bind fun r_189 => m_credencelaw15_GraphFilled_J6 N left_95 cliques_99 i_103 kk_L4 k_120 r_127 (!decide ((r_189.length : Int) = 0))))

def m_credencelaw15_GraphFilled_L8 (N : Nat) (a_210 : Int) (kk_L7 : (Int → Option Bool)) : Nat → Int → Option Bool
  | 0, _ => none
  | n_218 + 1, b_221 => if (decide (b_221 < a_210)) = true then none else (kk_L7 (IntKind.i64.wrap (a_210 + 1)))

def m_credencelaw15_GraphFilled_L7 (N : Nat) (cliques_99 : List (List Int)) (i_206 : Int) (kk_L6 : (Int → Option Bool)) : Nat → Int → Option Bool
  | 0, _ => none
  | n_207 + 1, a_210 => (at? cliques_99 i_206).bind fun e_211 => if (decide (a_210 < (e_211.length : Int))) = true then (m_credencelaw15_GraphFilled_L8 N a_210 (m_credencelaw15_GraphFilled_L7 N cliques_99 i_206 kk_L6 n_207) N 0) else (kk_L6 (IntKind.i64.wrap (i_206 + 1)))

def m_credencelaw15_GraphFilled_J7 (v_234 : Bool) : Option Bool :=
  some v_234

def m_credencelaw15_GraphFilled_L6 (N : Nat) (cliques_99 : List (List Int)) (g_104 : List (List Bool)) : Nat → Int → Option Bool
  | 0, _ => none
  | n_203 + 1, i_206 => if (decide (i_206 < (cliques_99.length : Int))) = true then (m_credencelaw15_GraphFilled_L7 N cliques_99 i_206 (m_credencelaw15_GraphFilled_L6 N cliques_99 g_104 n_203) N 0) else ((m_credencelaw15_listed N g_104).bind fun r_222 => if r_222.2 = true then (if (decide ((r_222.1.length : Int) = 0)) = true then none else (m_credencelaw15_GraphFilled_J7 false)) else (m_credencelaw15_GraphFilled_J7 false))

def m_credencelaw15_GraphFilled_L4 (N : Nat) (p2_order : (List Int)) : Nat → (List Int) → (List (List Int)) → Int → (List (List Bool)) → Option Bool
  | 0, _, _, _, _ => none
  | n_92 + 1, left_95, cliques_99, i_103, g_104 => if (decide (0 < (left_95.length : Int))) = true then (if (decide (i_103 < (p2_order.length : Int))) = true then ((at? p2_order i_103).bind fun e_197 => (m_credencelaw15_pick e_197 (left_95.length : Int)).bind fun r_199 => m_credencelaw15_GraphFilled_J5 N left_95 cliques_99 i_103 g_104 (m_credencelaw15_GraphFilled_L4 N p2_order n_92) r_199) else (m_credencelaw15_GraphFilled_J5 N left_95 cliques_99 i_103 g_104 (m_credencelaw15_GraphFilled_L4 N p2_order n_92) 0)) else (m_credencelaw15_GraphFilled_L6 N cliques_99 g_104 N 0)

def m_credencelaw15_GraphFilled_L3 (N : Nat) (p2_order : (List Int)) (t_12 : List (List Bool)) : Nat → (List Int) → Int → Option Bool
  | 0, _, _ => none
  | n_68 + 1, left_71, i_75 => (m_graph_Graph_Len t_12).bind fun r_76 => if (decide (i_75 < r_76)) = true then (chk ((left_71.length + [i_75].length) * 8 ≤ 140737488355328 ∧ left_71.length + [i_75].length ≤ maxLen) ((m_credencelaw15_GraphFilled_L3 N p2_order t_12 n_68) (left_71 ++ [i_75]) (IntKind.i64.wrap (i_75 + 1)))) else (m_credencelaw15_GraphFilled_L4 N p2_order N left_71 ([] : List (List Int)) 0 t_12)

def m_credencelaw15_GraphFilled_J3 (N : Nat) (p2_order : (List Int)) (t_12 : List (List Bool)) (v_67 : Bool) : Option Bool :=
  if v_67 = true then (some false) else (m_credencelaw15_GraphFilled_L3 N p2_order t_12 N ([] : List Int) 0)

def m_credencelaw15_GraphFilled_J9 (i_277 : Int) (kk_L10 : ((List Int) → (List (List Int)) → Int → (List (List Bool)) → (List (List Bool)) → Option Bool)) (left_284 : List Int) (cliques_288 : List (List Int)) (g_292 : List (List Bool)) (h_294 : List (List Bool)) : Option Bool :=
  kk_L10 left_284 cliques_288 (IntKind.i64.wrap (i_277 + 1)) g_292 h_294

def m_credencelaw15_GraphFilled_L11 (N : Nat) (left_269 : List Int) (cliques_273 : List (List Int)) (i_277 : Int) (kk_L10 : ((List Int) → (List (List Int)) → Int → (List (List Bool)) → (List (List Bool)) → Option Bool)) (k_298 : Int) (r_305 : ((List Int) × (List (Int × Int)) × List (List Bool))) : Nat → Int → (List (List Bool)) → Option Bool
  | 0, _, _ => none
  | n_330 + 1, j_333, h_334 => if (decide (j_333 < (r_305.2.1.length : Int))) = true then ((at? r_305.2.1 j_333).bind fun e_336 => (m_graph_Graph_Join h_334 e_336.1 e_336.2).bind fun r_347 => if (!r_347.1) = true then (some false) else ((m_credencelaw15_GraphFilled_L11 N left_269 cliques_273 i_277 kk_L10 k_298 r_305 n_330) (IntKind.i64.wrap (j_333 + 1)) r_347.2)) else (chk ((cliques_273.length + [r_305.1].length) * 24 ≤ 140737488355328 ∧ cliques_273.length + [r_305.1].length ≤ maxLen) (chk ((0 : Int) ≤ k_298 ∧ k_298 ≤ (left_269.length : Int)) (chk ((([] : List Int).length + (left_269.take (Int.toNat k_298)).length) * 8 ≤ 140737488355328 ∧ ([] : List Int).length + (left_269.take (Int.toNat k_298)).length ≤ maxLen) (chk ((0 : Int) ≤ (IntKind.i64.wrap (k_298 + 1)) ∧ (IntKind.i64.wrap (k_298 + 1)) ≤ (left_269.length : Int)) (chk (((([] : List Int) ++ (left_269.take (Int.toNat k_298))).length + (left_269.drop (Int.toNat (IntKind.i64.wrap (k_298 + 1)))).length) * 8 ≤ 140737488355328 ∧ (([] : List Int) ++ (left_269.take (Int.toNat k_298))).length + (left_269.drop (Int.toNat (IntKind.i64.wrap (k_298 + 1)))).length ≤ maxLen) (m_credencelaw15_GraphFilled_J9 i_277 kk_L10 ((([] : List Int) ++ (left_269.take (Int.toNat k_298))) ++ (left_269.drop (Int.toNat (IntKind.i64.wrap (k_298 + 1))))) (cliques_273 ++ [r_305.1]) r_305.2.2 h_334))))))

def m_credencelaw15_GraphFilled_J11 (N : Nat) (left_269 : List Int) (cliques_273 : List (List Int)) (i_277 : Int) (h_280 : List (List Bool)) (kk_L10 : ((List Int) → (List (List Int)) → Int → (List (List Bool)) → (List (List Bool)) → Option Bool)) (k_298 : Int) (r_305 : ((List Int) × (List (Int × Int)) × List (List Bool))) (v_329 : Bool) : Option Bool :=
  if v_329 = true then (some false) else (m_credencelaw15_GraphFilled_L11 N left_269 cliques_273 i_277 kk_L10 k_298 r_305 N 0 h_280)

def m_credencelaw15_GraphFilled_J10 (N : Nat) (left_269 : List Int) (cliques_273 : List (List Int)) (i_277 : Int) (g_278 : List (List Bool)) (h_280 : List (List Bool)) (kk_L10 : ((List Int) → (List (List Int)) → Int → (List (List Bool)) → (List (List Bool)) → Option Bool)) (k_298 : Int) : Option Bool :=
  (at? left_269 k_298).bind fun e_299 => (m_graph_Graph_Fill g_278 e_299).bind fun r_301 => (m_graph_Graph_Remove N g_278 e_299).bind fun r_305 => if (!decide ((r_305.2.1.length : Int) = r_301)) = true then (m_credencelaw15_GraphFilled_J11 N left_269 cliques_273 i_277 h_280 kk_L10 k_298 r_305 true) else (if (decide ((r_305.1.length : Int) = 0)) = true then (m_credencelaw15_GraphFilled_J11 N left_269 cliques_273 i_277 h_280 kk_L10 k_298 r_305 true) else ((m_graph_Graph_Near r_305.2.2 e_299).bind fun r_387 => m_credencelaw15_GraphFilled_J11 N left_269 cliques_273 i_277 h_280 kk_L10 k_298 r_305 (!decide ((r_387.length : Int) = 0))))

def m_credencelaw15_GraphFilled_L14 (N : Nat) (cliques_273 : List (List Int)) (h_280 : List (List Bool)) (i_404 : Int) (a_408 : Int) (kk_L13 : (Int → Option Bool)) : Nat → Int → Option Bool
  | 0, _ => none
  | n_416 + 1, b_419 => if (decide (b_419 < a_408)) = true then ((at? cliques_273 i_404).bind fun e_420 => (at? e_420 a_408).bind fun e_427 => (at? e_420 b_419).bind fun e_434 => (m_graph_Graph_Has h_280 e_427 e_434).bind fun r_436 => if (!r_436) = true then (some false) else ((m_credencelaw15_GraphFilled_L14 N cliques_273 h_280 i_404 a_408 kk_L13 n_416) (IntKind.i64.wrap (b_419 + 1)))) else (kk_L13 (IntKind.i64.wrap (a_408 + 1)))

def m_credencelaw15_GraphFilled_L13 (N : Nat) (cliques_273 : List (List Int)) (h_280 : List (List Bool)) (i_404 : Int) (kk_L12 : (Int → Option Bool)) : Nat → Int → Option Bool
  | 0, _ => none
  | n_405 + 1, a_408 => (at? cliques_273 i_404).bind fun e_409 => if (decide (a_408 < (e_409.length : Int))) = true then (m_credencelaw15_GraphFilled_L14 N cliques_273 h_280 i_404 a_408 (m_credencelaw15_GraphFilled_L13 N cliques_273 h_280 i_404 kk_L12 n_405) N 0) else (kk_L12 (IntKind.i64.wrap (i_404 + 1)))

def m_credencelaw15_GraphFilled_J12 (v_455 : Bool) : Option Bool :=
  some v_455

def m_credencelaw15_GraphFilled_L12 (N : Nat) (cliques_273 : List (List Int)) (g_278 : List (List Bool)) (h_280 : List (List Bool)) : Nat → Int → Option Bool
  | 0, _ => none
  | n_401 + 1, i_404 => if (decide (i_404 < (cliques_273.length : Int))) = true then (m_credencelaw15_GraphFilled_L13 N cliques_273 h_280 i_404 (m_credencelaw15_GraphFilled_L12 N cliques_273 g_278 h_280 n_401) N 0) else ((m_credencelaw15_listed N g_278).bind fun r_439 => if r_439.2 = true then (if (decide ((r_439.1.length : Int) = 0)) = true then ((m_graph_Graph_Chordal N h_280).bind fun r_458 => m_credencelaw15_GraphFilled_J12 r_458) else (m_credencelaw15_GraphFilled_J12 false)) else (m_credencelaw15_GraphFilled_J12 false))

def m_credencelaw15_GraphFilled_L10 (N : Nat) (p2_order : (List Int)) : Nat → (List Int) → (List (List Int)) → Int → (List (List Bool)) → (List (List Bool)) → Option Bool
  | 0, _, _, _, _, _ => none
  | n_266 + 1, left_269, cliques_273, i_277, g_278, h_280 => if (decide (0 < (left_269.length : Int))) = true then (if (decide (i_277 < (p2_order.length : Int))) = true then ((at? p2_order i_277).bind fun e_395 => (m_credencelaw15_pick e_395 (left_269.length : Int)).bind fun r_397 => m_credencelaw15_GraphFilled_J10 N left_269 cliques_273 i_277 g_278 h_280 (m_credencelaw15_GraphFilled_L10 N p2_order n_266) r_397) else (m_credencelaw15_GraphFilled_J10 N left_269 cliques_273 i_277 g_278 h_280 (m_credencelaw15_GraphFilled_L10 N p2_order n_266) 0)) else (m_credencelaw15_GraphFilled_L12 N cliques_273 g_278 h_280 N 0)

def m_credencelaw15_GraphFilled_L9 (N : Nat) (p2_order : (List Int)) (t_12 : List (List Bool)) (t_60 : List (List Bool)) : Nat → (List Int) → Int → Option Bool
  | 0, _, _ => none
  | n_242 + 1, left_245, i_249 => (m_graph_Graph_Len t_12).bind fun r_250 => if (decide (i_249 < r_250)) = true then (chk ((left_245.length + [i_249].length) * 8 ≤ 140737488355328 ∧ left_245.length + [i_249].length ≤ maxLen) ((m_credencelaw15_GraphFilled_L9 N p2_order t_12 t_60 n_242) (left_245 ++ [i_249]) (IntKind.i64.wrap (i_249 + 1)))) else (m_credencelaw15_GraphFilled_L10 N p2_order N left_245 ([] : List (List Int)) 0 t_12 t_60)

def m_credencelaw15_GraphFilled_J8 (N : Nat) (p2_order : (List Int)) (t_12 : List (List Bool)) (t_60 : List (List Bool)) (v_241 : Bool) : Option Bool :=
  if v_241 = true then (some false) else (m_credencelaw15_GraphFilled_L9 N p2_order t_12 t_60 N ([] : List Int) 0)

def m_credencelaw15_GraphFilled (N : Nat) (p0_n : Int) (p1_pairs : (List Int)) (p2_order : (List Int)) : Option Bool :=
  (w_credencelaw15_awake).bind fun r_1 => (m_credencelaw15_drawn N p0_n p1_pairs).bind fun r_5 => optC (r_5) ((m_credencelaw15_drawn N p0_n p1_pairs).bind fun r_16 => optC (r_16) (if (!r_1) = true then (m_credencelaw15_GraphFilled_J1 N true) else (m_credencelaw15_GraphFilled_J1 N true)) (fun t_23 => if (!r_1) = true then (m_credencelaw15_GraphFilled_J2 N true) else (m_credencelaw15_GraphFilled_J2 N true))) (fun t_12 => (m_credencelaw15_drawn N p0_n p1_pairs).bind fun r_53 => optC (r_53) (if (!r_1) = true then (m_credencelaw15_GraphFilled_J3 N p2_order t_12 true) else (m_credencelaw15_GraphFilled_J3 N p2_order t_12 true)) (fun t_60 => if (!r_1) = true then (m_credencelaw15_GraphFilled_J8 N p2_order t_12 t_60 true) else (m_credencelaw15_GraphFilled_J8 N p2_order t_12 t_60 false)))

set_option maxRecDepth 100000 in
set_option maxHeartbeats 2000000 in
theorem c_credencelaw15_GraphFilled (N : Nat) (col : Col) (w0 : World) (p0_n : Int) (a1 : Option Addr) (cap1 : Nat) (p1_pairs : (List Int)) (a2 : Option Addr) (cap2 : Nat) (p2_order : (List Int)) (h1 : Sl (Rep.int .i64) col w0 a1 cap1 p1_pairs) (h2 : Sl (Rep.int .i64) col w0 a2 cap2 p2_order) (r : Bool) (hm : m_credencelaw15_GraphFilled N p0_n p1_pairs p2_order = some r) :
    Calls Try.prog 5 #[(.int .i64 p0_n), (.slice a1 p1_pairs.length cap1), (.slice a2 p2_order.length cap2)] w0 (fun e w' => e = .returned ((.bool r)) ∧ Below w0.heap.size w0 w') := by
  refine calls_of1 6 (m := 188) (args := [(.int .i64 p0_n), (.slice a1 p1_pairs.length cap1), (.slice a2 p2_order.length cap2)]) Try.func5 rfl rfl rfl rfl rfl ?_
  rw [m_credencelaw15_GraphFilled.eq_1] at hm
  have hst := St.start col w0
  replace h1 := h1.keep (Stay.start col w0)
  replace h2 := h2.keep (Stay.start col w0)
  refine wseq ?_
  refine wregion ?_
  refine lv (v := (.bool false)) rfl rfl (r_assign rfl) ?_
  refine lnil ?_
  refine wseq ?_
  refine wregion ?_
  obtain ⟨r_1, hr_2, hm⟩ := bind_some hm
  refine lc rfl rfl (r_call0 Try.call12 ) (k_credencelaw15_awake (col0 col) _ r_1 hr_2) ?_
  rintro _ w_3 ⟨rfl, hg_4⟩
  refine ⟨_, rfl, ?_⟩
  replace hg_4 : Grow (col0 col) w0 (col0 col) w_3 := .of_below hg_4
  replace h1 := h1.gr hg_4
  replace h2 := h2.gr hg_4
  replace hst := hst.grow hg_4
  refine lv (v := (.bool r_1)) rfl rfl (r_assign rfl) ?_
  refine lnil ?_
  refine wseq ?_
  refine wregion ?_
  refine lv (v := (.int .i64 p0_n)) rfl rfl (r_move rfl) ?_
  refine lv (v := (.slice a1 p1_pairs.length cap1)) rfl rfl (r_move rfl) ?_
  obtain ⟨r_5, hr_6, hm⟩ := bind_some hm
  refine lc rfl rfl (r_call2 Try.call13 rfl rfl) (c_credencelaw15_drawn N 1 (col0 col) _ p0_n a1 cap1 p1_pairs h1 r_5 hr_6) ?_
  rintro _ w_9 ⟨col_11, rv_7, rfl, hg_10, rh_8⟩
  refine ⟨_, rfl, ?_⟩
  replace h1 := h1.gr hg_10
  replace h2 := h2.gr hg_10
  replace hst := hst.grow hg_10
  cases hx_13 : r_5 with
  | none =>
    rw [hx_13] at hm rh_8
    replace hm := optC_none hm
    obtain rfl := optP_none rh_8
    clear rh_8
    refine lv (v := (.pointer none)) rfl rfl (r_assign rfl) ?_
    refine lnil ?_
    refine wseq ?_
    refine wregion ?_
    refine lv (v := (.int .i64 p0_n)) rfl rfl (r_move rfl) ?_
    refine lv (v := (.slice a1 p1_pairs.length cap1)) rfl rfl (r_move rfl) ?_
    obtain ⟨r_16, hr_17, hm⟩ := bind_some hm
    refine lc rfl rfl (r_call2 Try.call13 rfl rfl) (c_credencelaw15_drawn N 2 col_11 _ p0_n a1 cap1 p1_pairs h1 r_16 hr_17) ?_
    rintro _ w_20 ⟨col_22, rv_18, rfl, hg_21, rh_19⟩
    refine ⟨_, rfl, ?_⟩
    replace h2 := h2.gr hg_21
    replace h1 := h1.gr hg_21
    replace hst := hst.grow hg_21
    cases hx_24 : r_16 with
    | none =>
      rw [hx_24] at hm rh_19
      replace hm := optC_none hm
      obtain rfl := optP_none rh_19
      clear rh_19
      refine lv (v := (.pointer none)) rfl rfl (r_assign rfl) ?_
      refine lnil ?_
      refine wseq ?_
      refine wseq ?_
      refine Wp.cut (fun f w_28 => ∃ (col_29 : Col) (v_30 : Bool), m_credencelaw15_GraphFilled_J1 N v_30 = some r ∧ St w0 (col0 col) col_29 w_28 ∧ Sl (Rep.int .i64) col_29 w_28 a2 cap2 p2_order ∧ f 2 = (.slice a2 p2_order.length cap2) ∧ f 44 = (.bool v_30) ∧ f 8 = (.pointer none) ∧ f 9 = (.pointer none) ∧ f 1000000 = (enc [])) ?_ ?_
      · intro f w_28 hJ
        obtain ⟨col_29, v_30, hm, hst, h2, hs2, hs44, hs8, hs9, hs1000000⟩ := hJ
        rw [m_credencelaw15_GraphFilled_J1.eq_1] at hm
        refine .ld (d := 2) (v := (.slice a2 p2_order.length cap2)) hs2 ?_
        refine .ld (d := 44) (v := (.bool v_30)) hs44 ?_
        refine .ld (d := 8) (v := (.pointer none)) hs8 ?_
        refine .ld (d := 9) (v := (.pointer none)) hs9 ?_
        refine .ld (d := 1000000) (v := (enc [])) hs1000000 ?_
        clear hs2 hs44 hs8 hs9 hs1000000
        refine wcond (v_30) rfl (fun hb => ?_) (fun hb => ?_)
        · rw [if_pos hb] at hm
          clear hb
          refine wseq ?_
          refine wregion ?_
          refine lv (v := (.bool false)) rfl rfl (r_assign rfl) ?_
          refine lnil ?_
          refine wret ?_
          cases hm
          exact ⟨rfl, rfl, hst.below⟩
        · rw [if_neg (by rw [hb]; decide)] at hm
          clear hb
          refine wskip ?_
          refine wseq ?_
          refine wregion ?_
          refine lv (v := (.slice none (([] : List Int).length) 0)) rfl rfl (r_assign rfl) ?_
          refine lnil ?_
          refine wseq ?_
          refine wseq ?_
          refine wregion ?_
          refine lv (v := (.int .i64 0)) rfl rfl (r_assign rfl) ?_
          refine lnil ?_
          refine wblock ?_
          refine wloop (fun n f w_32 => ∃ (col_33 : Col) (a_35 : Option Addr) (cap_36 : Nat) (left_34 : List Int) (i_38 : Int) (n_31 : Nat), n_31 = n ∧ m_credencelaw15_GraphFilled_L1 N n_31 left_34 i_38 = some r ∧ St w0 (col0 col) col_33 w_32 ∧ Own (Rep.int .i64) 3 3 col_33 w_32 a_35 cap_36 left_34 ∧ Sl (Rep.int .i64) col_33 w_32 a2 cap2 p2_order ∧ f 10 = (.slice a_35 left_34.length cap_36) ∧ f 11 = (.int .i64 i_38) ∧ f 2 = (.slice a2 p2_order.length cap2) ∧ f 8 = (.pointer none) ∧ f 9 = (.pointer none) ∧ f 1000000 = (enc [])) N ⟨col_29, none, 0, ([] : List Int), 0, N, rfl, hm, hst, Own.nil, h2, rfl, rfl, rfl, rfl, rfl, rfl⟩ ?_
          clear hm; intro n f w_32 hI
          obtain ⟨col_33, a_35, cap_36, left_34, i_38, n_31, hn, hm, hst, h_37, h2, hs10, hs11, hs2, hs8, hs9, hs1000000⟩ := hI
          subst hn
          refine .ld (d := 10) (v := (.slice a_35 left_34.length cap_36)) hs10 ?_
          refine .ld (d := 11) (v := (.int .i64 i_38)) hs11 ?_
          refine .ld (d := 2) (v := (.slice a2 p2_order.length cap2)) hs2 ?_
          refine .ld (d := 8) (v := (.pointer none)) hs8 ?_
          refine .ld (d := 9) (v := (.pointer none)) hs9 ?_
          refine .ld (d := 1000000) (v := (enc [])) hs1000000 ?_
          clear hs10 hs11 hs2 hs8 hs9 hs1000000
          cases n_31 with
          | zero => rw [m_credencelaw15_GraphFilled_L1.eq_1] at hm; cases hm
          | succ n_31 =>
            rw [m_credencelaw15_GraphFilled_L1.eq_2] at hm
            refine wseq ?_
            refine wseq ?_
            refine wregion ?_
            refine lv (v := (.int .i64 i_38)) rfl rfl (r_move rfl) ?_
            refine lv (v := (.pointer none)) rfl rfl (r_move rfl) ?_
            cases hm
      · refine wregion ?_
        refine lv (v := (.bool r_1)) rfl rfl (r_move rfl) ?_
        refine lv (v := (.bool (!r_1))) rfl rfl (r_not r_1 rfl) ?_
        refine lv (v := (.bool (!r_1))) rfl rfl (r_move rfl) ?_
        by_cases hg_39 : (!r_1) = true
        · rw [if_pos hg_39] at hm
          refine lp (b := !r_1) 37 rfl rfl rfl rfl (by rw [hg_39]; rfl) ?_
          refine lp (b := !r_1) 37 rfl rfl rfl rfl (by rw [hg_39]; rfl) ?_
          refine lv (v := (.bool true)) rfl rfl (r_pickT (congrArg Value.bool hg_39) rfl) ?_
          refine lv (v := (.bool true)) rfl rfl (r_move rfl) ?_
          refine lp (b := true) 41 rfl rfl rfl rfl rfl ?_
          refine lp (b := true) 41 rfl rfl rfl rfl rfl ?_
          refine lv (v := (.bool true)) rfl rfl (r_pickT rfl rfl) ?_
          refine lnil ?_
          exact ⟨col_22, true, hm, hst, h2, rfl, rfl, rfl, rfl, rfl⟩
        · rw [if_neg hg_39] at hm
          replace hg_39 := Bool.eq_false_iff.2 hg_39
          refine lg (b := !r_1) 37 rfl rfl rfl (by rw [hg_39]; rfl) ?_
          refine lv (v := (.pointer none)) rfl rfl (r_move rfl) ?_
          refine lg (b := !r_1) 37 rfl rfl rfl (by rw [hg_39]; rfl) ?_
          refine lv (v := (.bool true)) rfl rfl (r_eqlP0 ⟨_, Try.underlying24⟩ rfl rfl) ?_
          refine lv (v := (.bool true)) rfl rfl (r_pickF (congrArg Value.bool hg_39) rfl) ?_
          refine lv (v := (.bool true)) rfl rfl (r_move rfl) ?_
          refine lp (b := true) 41 rfl rfl rfl rfl rfl ?_
          refine lp (b := true) 41 rfl rfl rfl rfl rfl ?_
          refine lv (v := (.bool true)) rfl rfl (r_pickT rfl rfl) ?_
          refine lnil ?_
          exact ⟨col_22, true, hm, hst, h2, rfl, rfl, rfl, rfl, rfl⟩
    | some t_23 =>
      rw [hx_24] at hm rh_19
      replace hm := optC_some hm
      obtain ⟨o_25, rfl, hG_26⟩ := optP_some rh_19
      refine lv (v := (.pointer (some ⟨o_25.g, 0, none⟩))) rfl rfl (r_assign rfl) ?_
      refine lnil ?_
      refine wseq ?_
      refine wseq ?_
      refine Wp.cut (fun f w_41 => ∃ (col_42 : Col) (v_43 : Bool), m_credencelaw15_GraphFilled_J2 N v_43 = some r ∧ St w0 (col0 col) col_42 w_41 ∧ Sl (Rep.int .i64) col_42 w_41 a2 cap2 p2_order ∧ GO 85 86 2 col_42 w_41 o_25 t_23 ∧ f 2 = (.slice a2 p2_order.length cap2) ∧ f 44 = (.bool v_43) ∧ f 8 = (.pointer none) ∧ f 9 = (.pointer (some ⟨o_25.g, 0, none⟩)) ∧ f 1000000 = (enc [])) ?_ ?_
      · intro f w_41 hJ
        obtain ⟨col_42, v_43, hm, hst, h2, hG_26, hs2, hs44, hs8, hs9, hs1000000⟩ := hJ
        rw [m_credencelaw15_GraphFilled_J2.eq_1] at hm
        refine .ld (d := 2) (v := (.slice a2 p2_order.length cap2)) hs2 ?_
        refine .ld (d := 44) (v := (.bool v_43)) hs44 ?_
        refine .ld (d := 8) (v := (.pointer none)) hs8 ?_
        refine .ld (d := 9) (v := (.pointer (some ⟨o_25.g, 0, none⟩))) hs9 ?_
        refine .ld (d := 1000000) (v := (enc [])) hs1000000 ?_
        clear hs2 hs44 hs8 hs9 hs1000000
        refine wcond (v_43) rfl (fun hb => ?_) (fun hb => ?_)
        · rw [if_pos hb] at hm
          clear hb
          refine wseq ?_
          refine wregion ?_
          refine lv (v := (.bool false)) rfl rfl (r_assign rfl) ?_
          refine lnil ?_
          refine wret ?_
          cases hm
          exact ⟨rfl, rfl, hst.below⟩
        · rw [if_neg (by rw [hb]; decide)] at hm
          clear hb
          refine wskip ?_
          refine wseq ?_
          refine wregion ?_
          refine lv (v := (.slice none (([] : List Int).length) 0)) rfl rfl (r_assign rfl) ?_
          refine lnil ?_
          refine wseq ?_
          refine wseq ?_
          refine wregion ?_
          refine lv (v := (.int .i64 0)) rfl rfl (r_assign rfl) ?_
          refine lnil ?_
          refine wblock ?_
          refine wloop (fun n f w_45 => ∃ (col_46 : Col) (a_48 : Option Addr) (cap_49 : Nat) (left_47 : List Int) (i_51 : Int) (n_44 : Nat), n_44 = n ∧ m_credencelaw15_GraphFilled_L2 N n_44 left_47 i_51 = some r ∧ St w0 (col0 col) col_46 w_45 ∧ Own (Rep.int .i64) 3 4 col_46 w_45 a_48 cap_49 left_47 ∧ Sl (Rep.int .i64) col_46 w_45 a2 cap2 p2_order ∧ GO 85 86 2 col_46 w_45 o_25 t_23 ∧ f 10 = (.slice a_48 left_47.length cap_49) ∧ f 11 = (.int .i64 i_51) ∧ f 2 = (.slice a2 p2_order.length cap2) ∧ f 8 = (.pointer none) ∧ f 9 = (.pointer (some ⟨o_25.g, 0, none⟩)) ∧ f 1000000 = (enc [])) N ⟨col_42, none, 0, ([] : List Int), 0, N, rfl, hm, hst, Own.nil, h2, hG_26, rfl, rfl, rfl, rfl, rfl, rfl⟩ ?_
          clear hm; intro n f w_45 hI
          obtain ⟨col_46, a_48, cap_49, left_47, i_51, n_44, hn, hm, hst, h_50, h2, hG_26, hs10, hs11, hs2, hs8, hs9, hs1000000⟩ := hI
          subst hn
          refine .ld (d := 10) (v := (.slice a_48 left_47.length cap_49)) hs10 ?_
          refine .ld (d := 11) (v := (.int .i64 i_51)) hs11 ?_
          refine .ld (d := 2) (v := (.slice a2 p2_order.length cap2)) hs2 ?_
          refine .ld (d := 8) (v := (.pointer none)) hs8 ?_
          refine .ld (d := 9) (v := (.pointer (some ⟨o_25.g, 0, none⟩))) hs9 ?_
          refine .ld (d := 1000000) (v := (enc [])) hs1000000 ?_
          clear hs10 hs11 hs2 hs8 hs9 hs1000000
          cases n_44 with
          | zero => rw [m_credencelaw15_GraphFilled_L2.eq_1] at hm; cases hm
          | succ n_44 =>
            rw [m_credencelaw15_GraphFilled_L2.eq_2] at hm
            refine wseq ?_
            refine wseq ?_
            refine wregion ?_
            refine lv (v := (.int .i64 i_51)) rfl rfl (r_move rfl) ?_
            refine lv (v := (.pointer none)) rfl rfl (r_move rfl) ?_
            cases hm
      · refine wregion ?_
        refine lv (v := (.bool r_1)) rfl rfl (r_move rfl) ?_
        refine lv (v := (.bool (!r_1))) rfl rfl (r_not r_1 rfl) ?_
        refine lv (v := (.bool (!r_1))) rfl rfl (r_move rfl) ?_
        by_cases hg_52 : (!r_1) = true
        · rw [if_pos hg_52] at hm
          refine lp (b := !r_1) 37 rfl rfl rfl rfl (by rw [hg_52]; rfl) ?_
          refine lp (b := !r_1) 37 rfl rfl rfl rfl (by rw [hg_52]; rfl) ?_
          refine lv (v := (.bool true)) rfl rfl (r_pickT (congrArg Value.bool hg_52) rfl) ?_
          refine lv (v := (.bool true)) rfl rfl (r_move rfl) ?_
          refine lp (b := true) 41 rfl rfl rfl rfl rfl ?_
          refine lp (b := true) 41 rfl rfl rfl rfl rfl ?_
          refine lv (v := (.bool true)) rfl rfl (r_pickT rfl rfl) ?_
          refine lnil ?_
          exact ⟨col_22, true, hm, hst, h2, hG_26, rfl, rfl, rfl, rfl, rfl⟩
        · rw [if_neg hg_52] at hm
          replace hg_52 := Bool.eq_false_iff.2 hg_52
          refine lg (b := !r_1) 37 rfl rfl rfl (by rw [hg_52]; rfl) ?_
          refine lv (v := (.pointer none)) rfl rfl (r_move rfl) ?_
          refine lg (b := !r_1) 37 rfl rfl rfl (by rw [hg_52]; rfl) ?_
          refine lv (v := (.bool true)) rfl rfl (r_eqlP0 ⟨_, Try.underlying24⟩ rfl rfl) ?_
          refine lv (v := (.bool true)) rfl rfl (r_pickF (congrArg Value.bool hg_52) rfl) ?_
          refine lv (v := (.bool true)) rfl rfl (r_move rfl) ?_
          refine lp (b := true) 41 rfl rfl rfl rfl rfl ?_
          refine lp (b := true) 41 rfl rfl rfl rfl rfl ?_
          refine lv (v := (.bool true)) rfl rfl (r_pickT rfl rfl) ?_
          refine lnil ?_
          exact ⟨col_22, true, hm, hst, h2, hG_26, rfl, rfl, rfl, rfl, rfl⟩
  | some t_12 =>
    rw [hx_13] at hm rh_8
    replace hm := optC_some hm
    obtain ⟨o_14, rfl, hG_15⟩ := optP_some rh_8
    refine lv (v := (.pointer (some ⟨o_14.g, 0, none⟩))) rfl rfl (r_assign rfl) ?_
    refine lnil ?_
    refine wseq ?_
    refine wregion ?_
    refine lv (v := (.int .i64 p0_n)) rfl rfl (r_move rfl) ?_
    refine lv (v := (.slice a1 p1_pairs.length cap1)) rfl rfl (r_move rfl) ?_
    obtain ⟨r_53, hr_54, hm⟩ := bind_some hm
    refine lc rfl rfl (r_call2 Try.call13 rfl rfl) (c_credencelaw15_drawn N 5 col_11 _ p0_n a1 cap1 p1_pairs h1 r_53 hr_54) ?_
    rintro _ w_57 ⟨col_59, rv_55, rfl, hg_58, rh_56⟩
    refine ⟨_, rfl, ?_⟩
    replace h2 := h2.gr hg_58
    replace hG_15 := hG_15.gr hg_58
    replace h1 := h1.gr hg_58
    replace hst := hst.grow hg_58
    cases hx_61 : r_53 with
    | none =>
      rw [hx_61] at hm rh_56
      replace hm := optC_none hm
      obtain rfl := optP_none rh_56
      clear rh_56
      refine lv (v := (.pointer none)) rfl rfl (r_assign rfl) ?_
      refine lnil ?_
      refine wseq ?_
      refine wseq ?_
      refine Wp.cut (fun f w_65 => ∃ (col_66 : Col) (v_67 : Bool), m_credencelaw15_GraphFilled_J3 N p2_order t_12 v_67 = some r ∧ St w0 (col0 col) col_66 w_65 ∧ Sl (Rep.int .i64) col_66 w_65 a2 cap2 p2_order ∧ GO 85 86 1 col_66 w_65 o_14 t_12 ∧ f 2 = (.slice a2 p2_order.length cap2) ∧ f 44 = (.bool v_67) ∧ f 8 = (.pointer (some ⟨o_14.g, 0, none⟩)) ∧ f 9 = (.pointer none) ∧ f 1000000 = (enc [])) ?_ ?_
      · intro f w_65 hJ
        obtain ⟨col_66, v_67, hm, hst, h2, hG_15, hs2, hs44, hs8, hs9, hs1000000⟩ := hJ
        rw [m_credencelaw15_GraphFilled_J3.eq_1] at hm
        refine .ld (d := 2) (v := (.slice a2 p2_order.length cap2)) hs2 ?_
        refine .ld (d := 44) (v := (.bool v_67)) hs44 ?_
        refine .ld (d := 8) (v := (.pointer (some ⟨o_14.g, 0, none⟩))) hs8 ?_
        refine .ld (d := 9) (v := (.pointer none)) hs9 ?_
        refine .ld (d := 1000000) (v := (enc [])) hs1000000 ?_
        clear hs2 hs44 hs8 hs9 hs1000000
        refine wcond (v_67) rfl (fun hb => ?_) (fun hb => ?_)
        · rw [if_pos hb] at hm
          clear hb
          refine wseq ?_
          refine wregion ?_
          refine lv (v := (.bool false)) rfl rfl (r_assign rfl) ?_
          refine lnil ?_
          refine wret ?_
          cases hm
          exact ⟨rfl, rfl, hst.below⟩
        · rw [if_neg (by rw [hb]; decide)] at hm
          clear hb
          refine wskip ?_
          refine wseq ?_
          refine wregion ?_
          refine lv (v := (.slice none (([] : List Int).length) 0)) rfl rfl (r_assign rfl) ?_
          refine lnil ?_
          refine wseq ?_
          refine wseq ?_
          refine wregion ?_
          refine lv (v := (.int .i64 0)) rfl rfl (r_assign rfl) ?_
          refine lnil ?_
          refine wblock ?_
          refine wloop (fun n f w_69 => ∃ (col_70 : Col) (a_72 : Option Addr) (cap_73 : Nat) (left_71 : List Int) (i_75 : Int) (n_68 : Nat), n_68 = n ∧ m_credencelaw15_GraphFilled_L3 N p2_order t_12 n_68 left_71 i_75 = some r ∧ St w0 (col0 col) col_70 w_69 ∧ Own (Rep.int .i64) 3 6 col_70 w_69 a_72 cap_73 left_71 ∧ Sl (Rep.int .i64) col_70 w_69 a2 cap2 p2_order ∧ GO 85 86 1 col_70 w_69 o_14 t_12 ∧ f 10 = (.slice a_72 left_71.length cap_73) ∧ f 11 = (.int .i64 i_75) ∧ f 2 = (.slice a2 p2_order.length cap2) ∧ f 8 = (.pointer (some ⟨o_14.g, 0, none⟩)) ∧ f 9 = (.pointer none) ∧ f 1000000 = (enc [])) N ⟨col_66, none, 0, ([] : List Int), 0, N, rfl, hm, hst, Own.nil, h2, hG_15, rfl, rfl, rfl, rfl, rfl, rfl⟩ ?_
          clear hm; intro n f w_69 hI
          obtain ⟨col_70, a_72, cap_73, left_71, i_75, n_68, hn, hm, hst, h_74, h2, hG_15, hs10, hs11, hs2, hs8, hs9, hs1000000⟩ := hI
          subst hn
          refine .ld (d := 10) (v := (.slice a_72 left_71.length cap_73)) hs10 ?_
          refine .ld (d := 11) (v := (.int .i64 i_75)) hs11 ?_
          refine .ld (d := 2) (v := (.slice a2 p2_order.length cap2)) hs2 ?_
          refine .ld (d := 8) (v := (.pointer (some ⟨o_14.g, 0, none⟩))) hs8 ?_
          refine .ld (d := 9) (v := (.pointer none)) hs9 ?_
          refine .ld (d := 1000000) (v := (enc [])) hs1000000 ?_
          clear hs10 hs11 hs2 hs8 hs9 hs1000000
          cases n_68 with
          | zero => rw [m_credencelaw15_GraphFilled_L3.eq_1] at hm; cases hm
          | succ n_68 =>
            rw [m_credencelaw15_GraphFilled_L3.eq_2] at hm
            refine wseq ?_
            refine wseq ?_
            refine wregion ?_
            refine lv (v := (.int .i64 i_75)) rfl rfl (r_move rfl) ?_
            refine lv (v := (.pointer (some ⟨o_14.g, 0, none⟩))) rfl rfl (r_move rfl) ?_
            obtain ⟨r_76, hr_77, hm⟩ := bind_some hm
            refine lc rfl rfl (r_call1 Try.call15 rfl) (c_graph_Graph_Len col_70 _ 1 (by decide) o_14 t_12 hG_15 r_76 hr_77) ?_
            rintro _ w_78 ⟨rfl, hg_79⟩
            refine ⟨_, rfl, ?_⟩
            replace hg_79 : Grow col_70 w_69 col_70 w_78 := .of_below hg_79
            replace h_74 := h_74.gr hg_79
            replace h2 := h2.gr hg_79
            replace hG_15 := hG_15.gr hg_79
            replace hst := hst.grow hg_79
            refine lv (v := (.bool (decide (i_75 < r_76)))) rfl rfl (r_lss i_75 r_76 rfl rfl) ?_
            refine lnil ?_
            refine wcond (decide (i_75 < r_76)) rfl (fun hb => ?_) (fun hb => ?_)
            · rw [if_pos hb] at hm
              clear hb
              refine wskip ?_
              refine wseq ?_
              refine wblock ?_
              refine wregion ?_
              refine lv (v := (.slice a_72 left_71.length cap_73)) rfl rfl (r_move rfl) ?_
              refine lv (v := (.int .i64 i_75)) rfl rfl (r_move rfl) ?_
              refine l_lit (col := col_70) (r := (Rep.int .i64)) (xs := [i_75]) [(.int .i64 i_75)] 7 rfl Try.underlying22 el3_5 rfl rfl rfl rfl rfl rfl (by intro v hv; simp only [List.mem_cons, List.not_mem_nil, or_false] at hv; subst hv; rfl) (RowsH.ofF (Rows.consF (r := (Rep.int .i64)) (x := i_75) (cs := [(.int .i64 i_75)]) (rd_int .i64 i_75) Rows.nil0)) ?_
              intro a_80 w_81 col_82 hg_83 h_84
              replace h2 := h2.gr hg_83
              replace hG_15 := hG_15.gr hg_83
              replace h_74 := h_74.gr hg_83
              replace hst := hst.grow hg_83
              obtain ⟨hb_85, hm⟩ := chk_some hm
              refine l_appendM (col := col_82) (w := w_81) (r := (Rep.int .i64)) (c := 6) (c2 := 6) (xs := left_71) (ys := [i_75]) h_74 (h_84.srcN (NB.int (k := .i64))) rfl Try.underlying22 el3_5 rfl rfl rfl hb_85.1 hb_85.2 (by decide) ?_
              intro a_86 cap_87 w_88 col_89 hk_90 h_91
              replace h2 := h2.kpp hk_90 rfl
              replace hG_15 := hG_15.kpp hk_90 rfl rfl
              replace h_84 := h_84.kpp hk_90 rfl rfl
              replace hst := hst.kpp hk_90 rfl rfl
              clear h_74
              refine lv (v := (.slice a_86 ((left_71 ++ [i_75]).length) cap_87)) rfl rfl (r_assign rfl) ?_
              refine lnil ?_
              refine wregion ?_
              refine lv (v := (.int .i64 i_75)) rfl rfl (r_move rfl) ?_
              refine lv (v := (.int .i64 (IntKind.i64.wrap (i_75 + 1)))) rfl rfl (r_add i_75 1 rfl rfl) ?_
              refine lv (v := (.int .i64 (IntKind.i64.wrap (i_75 + 1)))) rfl rfl (r_assign rfl) ?_
              refine lnil ?_
              exact ⟨n_68, by omega, ⟨col_89, a_86, cap_87, (left_71 ++ [i_75]), (IntKind.i64.wrap (i_75 + 1)), n_68, rfl, hm, hst, h_91, h2, hG_15, rfl, rfl, rfl, rfl, rfl, rfl⟩⟩
            · rw [if_neg (by rw [hb]; decide)] at hm
              clear hb
              refine wexit (inB_hit ?_)
              refine wseq ?_
              refine wregion ?_
              refine lv (v := (.slice none (([] : List (List Int)).length) 0)) rfl rfl (r_assign rfl) ?_
              refine lnil ?_
              refine wseq ?_
              refine wseq ?_
              refine wregion ?_
              refine lv (v := (.int .i64 0)) rfl rfl (r_assign rfl) ?_
              refine lnil ?_
              refine wblock ?_
              refine wloop (fun n f w_93 => ∃ (col_94 : Col) (a_96 : Option Addr) (cap_97 : Nat) (left_95 : List Int) (a_100 : Option Addr) (cap_101 : Nat) (cliques_99 : List (List Int)) (i_103 : Int) (g_104 : List (List Bool)) (n_92 : Nat), n_92 = n ∧ m_credencelaw15_GraphFilled_L4 N p2_order n_92 left_95 cliques_99 i_103 g_104 = some r ∧ St w0 (col0 col) col_94 w_93 ∧ Own (Rep.int .i64) 3 6 col_94 w_93 a_96 cap_97 left_95 ∧ Own (Rep.row 3 (Rep.int .i64)) 22 8 col_94 w_93 a_100 cap_101 cliques_99 ∧ Sl (Rep.int .i64) col_94 w_93 a2 cap2 p2_order ∧ GO 85 86 1 col_94 w_93 o_14 g_104 ∧ f 10 = (.slice a_96 left_95.length cap_97) ∧ f 12 = (.slice a_100 cliques_99.length cap_101) ∧ f 13 = (.int .i64 i_103) ∧ f 2 = (.slice a2 p2_order.length cap2) ∧ f 8 = (.pointer (some ⟨o_14.g, 0, none⟩)) ∧ f 9 = (.pointer none) ∧ f 1000000 = (enc [])) N ⟨col_70, a_72, cap_73, left_71, none, 0, ([] : List (List Int)), 0, t_12, N, rfl, hm, hst, h_74, Own.nil, h2, hG_15, rfl, rfl, rfl, rfl, rfl, rfl, rfl⟩ ?_
              clear hm; intro n f w_93 hI
              obtain ⟨col_94, a_96, cap_97, left_95, a_100, cap_101, cliques_99, i_103, g_104, n_92, hn, hm, hst, h_98, h_102, h2, h_105, hs10, hs12, hs13, hs2, hs8, hs9, hs1000000⟩ := hI
              subst hn
              refine .ld (d := 10) (v := (.slice a_96 left_95.length cap_97)) hs10 ?_
              refine .ld (d := 12) (v := (.slice a_100 cliques_99.length cap_101)) hs12 ?_
              refine .ld (d := 13) (v := (.int .i64 i_103)) hs13 ?_
              refine .ld (d := 2) (v := (.slice a2 p2_order.length cap2)) hs2 ?_
              refine .ld (d := 8) (v := (.pointer (some ⟨o_14.g, 0, none⟩))) hs8 ?_
              refine .ld (d := 9) (v := (.pointer none)) hs9 ?_
              refine .ld (d := 1000000) (v := (enc [])) hs1000000 ?_
              clear hs10 hs12 hs13 hs2 hs8 hs9 hs1000000
              cases n_92 with
              | zero => rw [m_credencelaw15_GraphFilled_L4.eq_1] at hm; cases hm
              | succ n_92 =>
                rw [m_credencelaw15_GraphFilled_L4.eq_2] at hm
                refine wseq ?_
                refine wseq ?_
                refine wregion ?_
                refine lv (v := (.slice a_96 left_95.length cap_97)) rfl rfl (r_move rfl) ?_
                refine lv (v := (.int .i64 (left_95.length : Int))) rfl rfl (r_len Try.underlying22 rfl) ?_
                refine lv (v := (.bool (decide (0 < (left_95.length : Int))))) rfl rfl (r_gtr (left_95.length : Int) 0 rfl rfl) ?_
                refine lnil ?_
                refine wcond (decide (0 < (left_95.length : Int))) rfl (fun hb => ?_) (fun hb => ?_)
                · rw [if_pos hb] at hm
                  clear hb
                  refine wskip ?_
                  refine wseq ?_
                  refine Wp.cut (fun f w_106 => ∃ (col_107 : Col) (a_109 : Option Addr) (cap_110 : Nat) (left_108 : List Int) (a_113 : Option Addr) (cap_114 : Nat) (cliques_112 : List (List Int)) (g_116 : List (List Bool)), m_credencelaw15_GraphFilled_J4 i_103 (m_credencelaw15_GraphFilled_L4 N p2_order n_92) left_108 cliques_112 g_116 = some r ∧ St w0 (col0 col) col_107 w_106 ∧ Own (Rep.int .i64) 3 6 col_107 w_106 a_109 cap_110 left_108 ∧ Own (Rep.row 3 (Rep.int .i64)) 22 8 col_107 w_106 a_113 cap_114 cliques_112 ∧ Sl (Rep.int .i64) col_107 w_106 a2 cap2 p2_order ∧ GO 85 86 1 col_107 w_106 o_14 g_116 ∧ f 10 = (.slice a_109 left_108.length cap_110) ∧ f 12 = (.slice a_113 cliques_112.length cap_114) ∧ f 13 = (.int .i64 i_103) ∧ f 2 = (.slice a2 p2_order.length cap2) ∧ f 8 = (.pointer (some ⟨o_14.g, 0, none⟩)) ∧ f 9 = (.pointer none) ∧ f 1000000 = (enc [])) ?_ ?_
                  · intro f w_106 hJ
                    obtain ⟨col_107, a_109, cap_110, left_108, a_113, cap_114, cliques_112, g_116, hm, hst, h_111, h_115, h2, h_117, hs10, hs12, hs13, hs2, hs8, hs9, hs1000000⟩ := hJ
                    rw [m_credencelaw15_GraphFilled_J4.eq_1] at hm
                    refine .ld (d := 10) (v := (.slice a_109 left_108.length cap_110)) hs10 ?_
                    refine .ld (d := 12) (v := (.slice a_113 cliques_112.length cap_114)) hs12 ?_
                    refine .ld (d := 13) (v := (.int .i64 i_103)) hs13 ?_
                    refine .ld (d := 2) (v := (.slice a2 p2_order.length cap2)) hs2 ?_
                    refine .ld (d := 8) (v := (.pointer (some ⟨o_14.g, 0, none⟩))) hs8 ?_
                    refine .ld (d := 9) (v := (.pointer none)) hs9 ?_
                    refine .ld (d := 1000000) (v := (enc [])) hs1000000 ?_
                    clear hs10 hs12 hs13 hs2 hs8 hs9 hs1000000
                    refine wregion ?_
                    refine lv (v := (.int .i64 i_103)) rfl rfl (r_move rfl) ?_
                    refine lv (v := (.int .i64 (IntKind.i64.wrap (i_103 + 1)))) rfl rfl (r_add i_103 1 rfl rfl) ?_
                    refine lv (v := (.int .i64 (IntKind.i64.wrap (i_103 + 1)))) rfl rfl (r_assign rfl) ?_
                    refine lnil ?_
                    exact ⟨n_92, by omega, ⟨col_107, a_109, cap_110, left_108, a_113, cap_114, cliques_112, (IntKind.i64.wrap (i_103 + 1)), g_116, n_92, rfl, hm, hst, h_111, h_115, h2, h_117, rfl, rfl, rfl, rfl, rfl, rfl, rfl⟩⟩
                  · refine wblock ?_
                    refine wseq ?_
                    refine wregion ?_
                    refine lv (v := (.int .i64 0)) rfl rfl (r_assign rfl) ?_
                    refine lnil ?_
                    refine wseq ?_
                    refine Wp.cut (fun f w_118 => ∃ (col_119 : Col) (k_120 : Int), m_credencelaw15_GraphFilled_J5 N left_95 cliques_99 i_103 g_104 (m_credencelaw15_GraphFilled_L4 N p2_order n_92) k_120 = some r ∧ St w0 (col0 col) col_119 w_118 ∧ Own (Rep.int .i64) 3 6 col_119 w_118 a_96 cap_97 left_95 ∧ Own (Rep.row 3 (Rep.int .i64)) 22 8 col_119 w_118 a_100 cap_101 cliques_99 ∧ Sl (Rep.int .i64) col_119 w_118 a2 cap2 p2_order ∧ GO 85 86 1 col_119 w_118 o_14 g_104 ∧ f 10 = (.slice a_96 left_95.length cap_97) ∧ f 12 = (.slice a_100 cliques_99.length cap_101) ∧ f 13 = (.int .i64 i_103) ∧ f 14 = (.int .i64 k_120) ∧ f 2 = (.slice a2 p2_order.length cap2) ∧ f 8 = (.pointer (some ⟨o_14.g, 0, none⟩)) ∧ f 9 = (.pointer none) ∧ f 1000000 = (enc [])) ?_ ?_
                    · intro f w_118 hJ
                      obtain ⟨col_119, k_120, hm, hst, h_98, h_102, h2, h_105, hs10, hs12, hs13, hs14, hs2, hs8, hs9, hs1000000⟩ := hJ
                      rw [m_credencelaw15_GraphFilled_J5.eq_1] at hm
                      refine .ld (d := 10) (v := (.slice a_96 left_95.length cap_97)) hs10 ?_
                      refine .ld (d := 12) (v := (.slice a_100 cliques_99.length cap_101)) hs12 ?_
                      refine .ld (d := 13) (v := (.int .i64 i_103)) hs13 ?_
                      refine .ld (d := 14) (v := (.int .i64 k_120)) hs14 ?_
                      refine .ld (d := 2) (v := (.slice a2 p2_order.length cap2)) hs2 ?_
                      refine .ld (d := 8) (v := (.pointer (some ⟨o_14.g, 0, none⟩))) hs8 ?_
                      refine .ld (d := 9) (v := (.pointer none)) hs9 ?_
                      refine .ld (d := 1000000) (v := (enc [])) hs1000000 ?_
                      clear hs10 hs12 hs13 hs14 hs2 hs8 hs9 hs1000000
                      refine wseq ?_
                      refine wregion ?_
                      refine lv (v := (.slice a_96 left_95.length cap_97)) rfl rfl (r_move rfl) ?_
                      refine lv (v := (.int .i64 k_120)) rfl rfl (r_move rfl) ?_
                      obtain ⟨e_121, hj_122, hm⟩ := bind_some hm
                      refine lv (v := (sptr a_96 (Int.toNat k_120 * 1))) rfl rfl (r_idx Try.underlying22 Try.sizeOf3 rfl rfl (at?_some hj_122).1 (at?_some hj_122).2.1 (h_98.addr hj_122)) ?_
                      refine lv (v := (.int .i64 e_121)) rfl rfl (r_ld Try.isAgg3 rfl (h_98.atInt hj_122)) ?_
                      refine lv (v := (.int .i64 e_121)) rfl rfl (r_assign rfl) ?_
                      refine lnil ?_
                      refine wseq ?_
                      refine wregion ?_
                      refine lv (v := (.pointer (some ⟨o_14.g, 0, none⟩))) rfl rfl (r_move rfl) ?_
                      refine lv (v := (.int .i64 e_121)) rfl rfl (r_move rfl) ?_
                      obtain ⟨r_123, hr_124, hm⟩ := bind_some hm
                      refine lc rfl rfl (r_call2 Try.call16 rfl rfl) (c_graph_Graph_Fill col_119 _ 1 (by decide) o_14 g_104 e_121 h_105 r_123 hr_124) ?_
                      rintro _ w_125 ⟨rfl, hg_126⟩
                      refine ⟨_, rfl, ?_⟩
                      replace hg_126 : Grow col_119 w_118 col_119 w_125 := .of_below hg_126
                      replace h_98 := h_98.gr hg_126
                      replace h_102 := h_102.gr hg_126
                      replace h2 := h2.gr hg_126
                      replace h_105 := h_105.gr hg_126
                      replace hst := hst.grow hg_126
                      refine lv (v := (.int .i64 r_123)) rfl rfl (r_assign rfl) ?_
                      refine lnil ?_
                      refine wseq ?_
                      refine wregion ?_
                      refine lv (v := (.pointer (some ⟨o_14.g, 0, none⟩))) rfl rfl (r_move rfl) ?_
                      refine lv (v := (.int .i64 e_121)) rfl rfl (r_move rfl) ?_
                      obtain ⟨r_127, hr_128, hm⟩ := bind_some hm
                      refine lc rfl rfl (r_call2 Try.call17 rfl rfl) (c_graph_Graph_Remove N 9 10 col_119 _ 1 rfl o_14 g_104 e_121 h_105 r_127 hr_128) ?_
                      rintro _ w_136 ⟨col_138, ra_129, rc_130, ra_132, rc_133, rfl, hg_137, rh_131, rh_134, oh_135⟩
                      refine ⟨_, rfl, ?_⟩
                      replace h_98 := h_98.kpp hg_137 rfl rfl
                      replace h_102 := h_102.kpp hg_137 rfl rfl
                      replace h2 := h2.kpp hg_137 rfl
                      replace hst := hst.kpp hg_137 rfl rfl
                      clear h_105
                      refine lv (v := (.tuple #[(.slice ra_129 r_127.1.length rc_130), (.slice ra_132 r_127.2.1.length rc_133)])) rfl rfl (r_move rfl) ?_
                      refine lv (v := (.slice ra_129 r_127.1.length rc_130)) rfl rfl (r_extract rfl rfl) ?_
                      refine lv (v := (.slice ra_132 r_127.2.1.length rc_133)) rfl rfl (r_extract rfl rfl) ?_
                      refine lv (v := (.slice ra_129 r_127.1.length rc_130)) rfl rfl (r_assign rfl) ?_
                      refine lv (v := (.slice ra_132 r_127.2.1.length rc_133)) rfl rfl (r_assign rfl) ?_
                      refine lnil ?_
                      refine wseq ?_
                      refine wseq ?_
                      refine Wp.cut (fun f w_149 => ∃ (col_150 : Col) (v_151 : Bool), m_credencelaw15_GraphFilled_J6 N left_95 cliques_99 i_103 (m_credencelaw15_GraphFilled_L4 N p2_order n_92) k_120 r_127 v_151 = some r ∧ St w0 (col0 col) col_150 w_149 ∧ Own (Rep.int .i64) 3 6 col_150 w_149 a_96 cap_97 left_95 ∧ Own (Rep.row 3 (Rep.int .i64)) 22 8 col_150 w_149 a_100 cap_101 cliques_99 ∧ Own (Rep.int .i64) 3 9 col_150 w_149 ra_129 rc_130 r_127.1 ∧ Own (Rep.pair (Rep.int .i64) (Rep.int .i64)) 47 10 col_150 w_149 ra_132 rc_133 r_127.2.1 ∧ Sl (Rep.int .i64) col_150 w_149 a2 cap2 p2_order ∧ GO 85 86 1 col_150 w_149 o_14 r_127.2.2 ∧ f 10 = (.slice a_96 left_95.length cap_97) ∧ f 12 = (.slice a_100 cliques_99.length cap_101) ∧ f 13 = (.int .i64 i_103) ∧ f 14 = (.int .i64 k_120) ∧ f 17 = (.slice ra_129 r_127.1.length rc_130) ∧ f 18 = (.slice ra_132 r_127.2.1.length rc_133) ∧ f 2 = (.slice a2 p2_order.length cap2) ∧ f 8 = (.pointer (some ⟨o_14.g, 0, none⟩)) ∧ f 9 = (.pointer none) ∧ f 99 = (.bool v_151) ∧ f 1000000 = (enc [])) ?_ ?_
                      · intro f w_149 hJ
                        obtain ⟨col_150, v_151, hm, hst, h_98, h_102, rh_131, rh_134, h2, oh_135, hs10, hs12, hs13, hs14, hs17, hs18, hs2, hs8, hs9, hs99, hs1000000⟩ := hJ
                        rw [m_credencelaw15_GraphFilled_J6.eq_1] at hm
                        refine .ld (d := 10) (v := (.slice a_96 left_95.length cap_97)) hs10 ?_
                        refine .ld (d := 12) (v := (.slice a_100 cliques_99.length cap_101)) hs12 ?_
                        refine .ld (d := 13) (v := (.int .i64 i_103)) hs13 ?_
                        refine .ld (d := 14) (v := (.int .i64 k_120)) hs14 ?_
                        refine .ld (d := 17) (v := (.slice ra_129 r_127.1.length rc_130)) hs17 ?_
                        refine .ld (d := 18) (v := (.slice ra_132 r_127.2.1.length rc_133)) hs18 ?_
                        refine .ld (d := 2) (v := (.slice a2 p2_order.length cap2)) hs2 ?_
                        refine .ld (d := 8) (v := (.pointer (some ⟨o_14.g, 0, none⟩))) hs8 ?_
                        refine .ld (d := 9) (v := (.pointer none)) hs9 ?_
                        refine .ld (d := 99) (v := (.bool v_151)) hs99 ?_
                        refine .ld (d := 1000000) (v := (enc [])) hs1000000 ?_
                        clear hs10 hs12 hs13 hs14 hs17 hs18 hs2 hs8 hs9 hs99 hs1000000
                        refine wcond (v_151) rfl (fun hb => ?_) (fun hb => ?_)
                        · rw [if_pos hb] at hm
                          clear hb
                          refine wseq ?_
                          refine wregion ?_
                          refine lv (v := (.bool false)) rfl rfl (r_assign rfl) ?_
                          refine lnil ?_
                          refine wret ?_
                          cases hm
                          exact ⟨rfl, rfl, hst.below⟩
                        · rw [if_neg (by rw [hb]; decide)] at hm
                          clear hb
                          refine wskip ?_
                          refine wseq ?_
                          refine wseq ?_
                          refine wregion ?_
                          refine lv (v := (.int .i64 0)) rfl rfl (r_assign rfl) ?_
                          refine lnil ?_
                          refine wblock ?_
                          refine wloop (fun n f w_153 => ∃ (col_154 : Col) (j_155 : Int) (n_152 : Nat), n_152 = n ∧ m_credencelaw15_GraphFilled_L5 N left_95 cliques_99 i_103 (m_credencelaw15_GraphFilled_L4 N p2_order n_92) k_120 r_127 n_152 j_155 = some r ∧ St w0 (col0 col) col_154 w_153 ∧ Own (Rep.int .i64) 3 6 col_154 w_153 a_96 cap_97 left_95 ∧ Own (Rep.row 3 (Rep.int .i64)) 22 8 col_154 w_153 a_100 cap_101 cliques_99 ∧ Own (Rep.int .i64) 3 9 col_154 w_153 ra_129 rc_130 r_127.1 ∧ Own (Rep.pair (Rep.int .i64) (Rep.int .i64)) 47 10 col_154 w_153 ra_132 rc_133 r_127.2.1 ∧ Sl (Rep.int .i64) col_154 w_153 a2 cap2 p2_order ∧ GO 85 86 1 col_154 w_153 o_14 r_127.2.2 ∧ f 10 = (.slice a_96 left_95.length cap_97) ∧ f 12 = (.slice a_100 cliques_99.length cap_101) ∧ f 13 = (.int .i64 i_103) ∧ f 14 = (.int .i64 k_120) ∧ f 17 = (.slice ra_129 r_127.1.length rc_130) ∧ f 18 = (.slice ra_132 r_127.2.1.length rc_133) ∧ f 19 = (.int .i64 j_155) ∧ f 2 = (.slice a2 p2_order.length cap2) ∧ f 8 = (.pointer (some ⟨o_14.g, 0, none⟩)) ∧ f 9 = (.pointer none) ∧ f 1000000 = (enc [])) N ⟨col_150, 0, N, rfl, hm, hst, h_98, h_102, rh_131, rh_134, h2, oh_135, rfl, rfl, rfl, rfl, rfl, rfl, rfl, rfl, rfl, rfl, rfl⟩ ?_
                          clear hm; intro n f w_153 hI
                          obtain ⟨col_154, j_155, n_152, hn, hm, hst, h_98, h_102, rh_131, rh_134, h2, oh_135, hs10, hs12, hs13, hs14, hs17, hs18, hs19, hs2, hs8, hs9, hs1000000⟩ := hI
                          subst hn
                          refine .ld (d := 10) (v := (.slice a_96 left_95.length cap_97)) hs10 ?_
                          refine .ld (d := 12) (v := (.slice a_100 cliques_99.length cap_101)) hs12 ?_
                          refine .ld (d := 13) (v := (.int .i64 i_103)) hs13 ?_
                          refine .ld (d := 14) (v := (.int .i64 k_120)) hs14 ?_
                          refine .ld (d := 17) (v := (.slice ra_129 r_127.1.length rc_130)) hs17 ?_
                          refine .ld (d := 18) (v := (.slice ra_132 r_127.2.1.length rc_133)) hs18 ?_
                          refine .ld (d := 19) (v := (.int .i64 j_155)) hs19 ?_
                          refine .ld (d := 2) (v := (.slice a2 p2_order.length cap2)) hs2 ?_
                          refine .ld (d := 8) (v := (.pointer (some ⟨o_14.g, 0, none⟩))) hs8 ?_
                          refine .ld (d := 9) (v := (.pointer none)) hs9 ?_
                          refine .ld (d := 1000000) (v := (enc [])) hs1000000 ?_
                          clear hs10 hs12 hs13 hs14 hs17 hs18 hs19 hs2 hs8 hs9 hs1000000
                          cases n_152 with
                          | zero => rw [m_credencelaw15_GraphFilled_L5.eq_1] at hm; cases hm
                          | succ n_152 =>
                            rw [m_credencelaw15_GraphFilled_L5.eq_2] at hm
                            refine wseq ?_
                            refine wseq ?_
                            refine wregion ?_
                            refine lv (v := (.int .i64 j_155)) rfl rfl (r_move rfl) ?_
                            refine lv (v := (.slice ra_132 r_127.2.1.length rc_133)) rfl rfl (r_move rfl) ?_
                            refine lv (v := (.int .i64 (r_127.2.1.length : Int))) rfl rfl (r_len Try.underlying29 rfl) ?_
                            refine lv (v := (.bool (decide (j_155 < (r_127.2.1.length : Int))))) rfl rfl (r_lss j_155 (r_127.2.1.length : Int) rfl rfl) ?_
                            refine lnil ?_
                            refine wcond (decide (j_155 < (r_127.2.1.length : Int))) rfl (fun hb => ?_) (fun hb => ?_)
                            · rw [if_pos hb] at hm
                              clear hb
                              cases hm
                            · rw [if_neg (by rw [hb]; decide)] at hm
                              clear hb
                              refine wexit (inB_hit ?_)
                              refine wseq ?_
                              refine wregion ?_
                              refine lv (v := (.slice a_100 cliques_99.length cap_101)) rfl rfl (r_move rfl) ?_
                              refine lv (v := (.slice ra_129 r_127.1.length rc_130)) rfl rfl (r_move rfl) ?_
                              refine l_lit (col := col_154) (r := (Rep.row 3 (Rep.int .i64))) (xs := [r_127.1]) [(.slice ra_129 r_127.1.length rc_130)] 9 rfl Try.underlying33 el22_5 rfl rfl rfl rfl rfl rfl (by intro v hv; simp only [List.mem_cons, List.not_mem_nil, or_false] at hv; subst hv; rfl) (RowsH.cons1 (cs := [(.slice ra_129 r_127.1.length rc_130)]) rh_131.has Rows.nil0) ?_
                              intro a_156 w_157 col_158 hg_159 h_160
                              replace h_98 := h_98.gr hg_159
                              replace h2 := h2.gr hg_159
                              replace oh_135 := oh_135.gr hg_159
                              replace h_102 := h_102.gr hg_159
                              replace rh_131 := rh_131.gr hg_159
                              replace hst := hst.grow hg_159
                              obtain ⟨hb_161, hm⟩ := chk_some hm
                              refine l_appendM (col := col_158) (w := w_157) (r := (Rep.row 3 (Rep.int .i64))) (c := 8) (c2 := 9) (xs := cliques_99) (ys := [r_127.1]) h_102 (h_160.srcC (by decide)) rfl Try.underlying33 el22_5 rfl rfl rfl hb_161.1 hb_161.2 (by decide) ?_
                              intro a_162 cap_163 w_164 col_165 hk_166 h_167
                              replace h_98 := h_98.kpp hk_166 rfl rfl
                              replace h2 := h2.kpp hk_166 rfl
                              replace oh_135 := oh_135.kpp hk_166 rfl rfl
                              clear h_160
                              replace hst := hst.kpp hk_166 rfl rfl
                              clear h_102
                              refine lv (v := (.slice a_162 ((cliques_99 ++ [r_127.1]).length) cap_163)) rfl rfl (r_assign rfl) ?_
                              refine lnil ?_
                              refine wseq ?_
                              refine wregion ?_
                              refine lv (v := (.slice none (([] : List Int).length) 0)) rfl rfl (r_assign rfl) ?_
                              refine lnil ?_
                              refine wseq ?_
                              refine wregion ?_
                              refine lv (v := (.slice none (([] : List Int).length) 0)) rfl rfl (r_move rfl) ?_
                              refine lv (v := (.slice a_96 left_95.length cap_97)) rfl rfl (r_move rfl) ?_
                              refine lv (v := (.int .i64 k_120)) rfl rfl (r_move rfl) ?_
                              obtain ⟨hb_168, hm⟩ := chk_some hm
                              refine lv (v := .slice a_96 (Int.toNat k_120) cap_97) rfl rfl (r_sliceH Try.underlying22 Try.sizeOf3 rfl rfl hb_168.1 (by have := h_98.lecap; have := hb_168.2; omega)) ?_
                              refine .ld (d := 127) (v := (.slice a_96 ((left_95.take (Int.toNat k_120)).length) cap_97)) (congrArg (fun n => Value.slice a_96 n cap_97) (List.length_take_of_le (show (Int.toNat k_120) ≤ left_95.length by have := hb_168.2; omega)).symm) ?_
                              obtain ⟨hb_169, hm⟩ := chk_some hm
                              refine l_appendM (col := col_165) (w := w_164) (r := (Rep.int .i64)) (c := 12) (c2 := 12) (xs := ([] : List Int)) (ys := left_95.take (Int.toNat k_120)) Own.nil ((h_98.take (Int.toNat k_120)).srcN (NB.int (k := .i64))) rfl Try.underlying22 el3_5 rfl rfl rfl hb_169.1 hb_169.2 (by decide) ?_
                              intro a_170 cap_171 w_172 col_173 hk_174 h_175
                              replace h_98 := h_98.kpp hk_174 rfl rfl
                              replace h2 := h2.kpp hk_174 rfl
                              replace oh_135 := oh_135.kpp hk_174 rfl rfl
                              replace h_167 := h_167.kpp hk_174 rfl rfl
                              replace hst := hst.kpp hk_174 rfl rfl
                              refine lv (v := (.slice a_170 ((([] : List Int) ++ (left_95.take (Int.toNat k_120))).length) cap_171)) rfl rfl (r_assign rfl) ?_
                              refine lnil ?_
                              refine wregion ?_
                              refine lv (v := (.slice a_170 ((([] : List Int) ++ (left_95.take (Int.toNat k_120))).length) cap_171)) rfl rfl (r_move rfl) ?_
                              refine lv (v := (.slice a_96 left_95.length cap_97)) rfl rfl (r_move rfl) ?_
                              refine lv (v := (.int .i64 k_120)) rfl rfl (r_move rfl) ?_
                              refine lv (v := (.int .i64 (IntKind.i64.wrap (k_120 + 1)))) rfl rfl (r_add k_120 1 rfl rfl) ?_
                              obtain ⟨hb_176, hm⟩ := chk_some hm
                              replace h2 := h2.froz 6
                              replace oh_135 := oh_135.froz 6 (by decide)
                              replace h_167 := h_167.froz 6 (by decide)
                              replace h_175 := h_175.froz 6 (by decide)
                              replace h_98 := (h_98).toSlF (Froz.int .i64)
                              replace hst := hst.froz 6 (by decide) (by decide)
                              have h_179 := h_98.drop (sz := 1) rfl (Int.toNat (IntKind.i64.wrap (k_120 + 1)))
                              refine lv (v := .slice (if cap_97 = (Int.toNat (IntKind.i64.wrap (k_120 + 1))) then a_96 else a_96.map (·.add ((Int.toNat (IntKind.i64.wrap (k_120 + 1))) * 1))) (left_95.length - (Int.toNat (IntKind.i64.wrap (k_120 + 1)))) (cap_97 - (Int.toNat (IntKind.i64.wrap (k_120 + 1))))) rfl rfl (r_sliceL Try.underlying22 Try.sizeOf3 rfl rfl hb_176.1 hb_176.2) ?_
                              generalize (if cap_97 = (Int.toNat (IntKind.i64.wrap (k_120 + 1))) then a_96 else a_96.map (·.add ((Int.toNat (IntKind.i64.wrap (k_120 + 1))) * 1))) = a_177 at *
                              refine .ld (d := 133) (v := (.slice a_177 ((left_95.drop (Int.toNat (IntKind.i64.wrap (k_120 + 1)))).length) (cap_97 - (Int.toNat (IntKind.i64.wrap (k_120 + 1)))))) (congrArg (fun n => Value.slice a_177 n (cap_97 - (Int.toNat (IntKind.i64.wrap (k_120 + 1))))) (List.length_drop (i := (Int.toNat (IntKind.i64.wrap (k_120 + 1)))) (l := left_95)).symm) ?_
                              obtain ⟨hb_180, hm⟩ := chk_some hm
                              refine l_appendM (col := (frC 6 col_173)) (w := w_172) (r := (Rep.int .i64)) (c := 12) (c2 := 12) (xs := ([] : List Int) ++ (left_95.take (Int.toNat k_120))) (ys := left_95.drop (Int.toNat (IntKind.i64.wrap (k_120 + 1)))) h_175 h_179.srcC rfl Try.underlying22 el3_5 rfl rfl rfl hb_180.1 hb_180.2 (by decide) ?_
                              intro a_181 cap_182 w_183 col_184 hk_185 h_186
                              replace h2 := h2.kpp hk_185 rfl
                              replace oh_135 := oh_135.kpp hk_185 rfl rfl
                              replace h_167 := h_167.kpp hk_185 rfl rfl
                              replace h_179 := h_179.kpp hk_185 rfl
                              replace hst := hst.kpp hk_185 rfl rfl
                              clear h_175
                              refine lv (v := (.slice a_181 (((([] : List Int) ++ (left_95.take (Int.toNat k_120))) ++ (left_95.drop (Int.toNat (IntKind.i64.wrap (k_120 + 1))))).length) cap_182)) rfl rfl (r_assign rfl) ?_
                              refine lnil ?_
                              replace h2 := h2.recol 12 6 (by decide)
                              replace oh_135 := oh_135.recol 12 6 (by decide)
                              replace h_167 := h_167.recol 12 6 (by decide)
                              replace h_186 := h_186.recolSelf 6 (by decide)
                              replace hst := hst.recol 12 6 (by decide) (by decide)
                              exact ⟨(rcC 12 6 col_184), a_181, cap_182, ((([] : List Int) ++ (left_95.take (Int.toNat k_120))) ++ (left_95.drop (Int.toNat (IntKind.i64.wrap (k_120 + 1))))), a_162, cap_163, (cliques_99 ++ [r_127.1]), r_127.2.2, hm, hst, h_186, h_167, h2, oh_135, rfl, rfl, rfl, rfl, rfl, rfl, rfl⟩
                      · refine wregion ?_
                        refine lv (v := (.slice ra_132 r_127.2.1.length rc_133)) rfl rfl (r_move rfl) ?_
                        refine lv (v := (.int .i64 (r_127.2.1.length : Int))) rfl rfl (r_len Try.underlying29 rfl) ?_
                        refine lv (v := (.int .i64 r_123)) rfl rfl (r_move rfl) ?_
                        refine lv (v := (.bool (!decide ((r_127.2.1.length : Int) = r_123)))) rfl rfl (r_neq (r_127.2.1.length : Int) r_123 rfl rfl) ?_
                        refine lv (v := (.bool (!decide ((r_127.2.1.length : Int) = r_123)))) rfl rfl (r_move rfl) ?_
                        by_cases hg_187 : (!decide ((r_127.2.1.length : Int) = r_123)) = true
                        · rw [if_pos hg_187] at hm
                          refine lp (b := !decide ((r_127.2.1.length : Int) = r_123)) 88 rfl rfl rfl rfl (by rw [hg_187]; rfl) ?_
                          refine lp (b := !decide ((r_127.2.1.length : Int) = r_123)) 88 rfl rfl rfl rfl (by rw [hg_187]; rfl) ?_
                          refine lp (b := !decide ((r_127.2.1.length : Int) = r_123)) 88 rfl rfl rfl rfl (by rw [hg_187]; rfl) ?_
                          refine lv (v := (.bool true)) rfl rfl (r_pickT (congrArg Value.bool hg_187) rfl) ?_
                          refine lv (v := (.bool true)) rfl rfl (r_move rfl) ?_
                          refine lp (b := true) 93 rfl rfl rfl rfl rfl ?_
                          refine lp (b := true) 93 rfl rfl rfl rfl rfl ?_
                          refine lp (b := true) 93 rfl rfl rfl rfl rfl ?_
                          refine lp (b := true) 93 rfl rfl rfl rfl rfl ?_
                          refine lp (b := true) 93 rfl rfl rfl rfl rfl ?_
                          refine lv (v := (.bool true)) rfl rfl (r_pickT rfl rfl) ?_
                          refine lnil ?_
                          exact ⟨col_138, true, hm, hst, h_98, h_102, rh_131, rh_134, h2, oh_135, rfl, rfl, rfl, rfl, rfl, rfl, rfl, rfl, rfl, rfl, rfl⟩
                        · rw [if_neg hg_187] at hm
                          replace hg_187 := Bool.eq_false_iff.2 hg_187
                          refine lg (b := !decide ((r_127.2.1.length : Int) = r_123)) 88 rfl rfl rfl (by rw [hg_187]; rfl) ?_
                          refine lv (v := (.slice ra_129 r_127.1.length rc_130)) rfl rfl (r_move rfl) ?_
                          refine lg (b := !decide ((r_127.2.1.length : Int) = r_123)) 88 rfl rfl rfl (by rw [hg_187]; rfl) ?_
                          refine lv (v := (.int .i64 (r_127.1.length : Int))) rfl rfl (r_len Try.underlying22 rfl) ?_
                          refine lg (b := !decide ((r_127.2.1.length : Int) = r_123)) 88 rfl rfl rfl (by rw [hg_187]; rfl) ?_
                          refine lv (v := (.bool (decide ((r_127.1.length : Int) = 0)))) rfl rfl (r_eql (r_127.1.length : Int) 0 rfl rfl) ?_
                          refine lv (v := (.bool (decide ((r_127.1.length : Int) = 0)))) rfl rfl (r_pickF (congrArg Value.bool hg_187) rfl) ?_
                          refine lv (v := (.bool (decide ((r_127.1.length : Int) = 0)))) rfl rfl (r_move rfl) ?_
                          by_cases hg_188 : (decide ((r_127.1.length : Int) = 0)) = true
                          · rw [if_pos hg_188] at hm
                            refine lp (b := decide ((r_127.1.length : Int) = 0)) 93 rfl rfl rfl rfl (by rw [hg_188]; rfl) ?_
                            refine lp (b := decide ((r_127.1.length : Int) = 0)) 93 rfl rfl rfl rfl (by rw [hg_188]; rfl) ?_
                            refine lp (b := decide ((r_127.1.length : Int) = 0)) 93 rfl rfl rfl rfl (by rw [hg_188]; rfl) ?_
                            refine lp (b := decide ((r_127.1.length : Int) = 0)) 93 rfl rfl rfl rfl (by rw [hg_188]; rfl) ?_
                            refine lp (b := decide ((r_127.1.length : Int) = 0)) 93 rfl rfl rfl rfl (by rw [hg_188]; rfl) ?_
                            refine lv (v := (.bool true)) rfl rfl (r_pickT (congrArg Value.bool hg_188) rfl) ?_
                            refine lnil ?_
                            exact ⟨col_138, true, hm, hst, h_98, h_102, rh_131, rh_134, h2, oh_135, rfl, rfl, rfl, rfl, rfl, rfl, rfl, rfl, rfl, rfl, rfl⟩
                          · rw [if_neg hg_188] at hm
                            replace hg_188 := Bool.eq_false_iff.2 hg_188
                            refine lg (b := decide ((r_127.1.length : Int) = 0)) 93 rfl rfl rfl (by rw [hg_188]; rfl) ?_
                            refine lv (v := (.pointer (some ⟨o_14.g, 0, none⟩))) rfl rfl (r_move rfl) ?_
                            refine lg (b := decide ((r_127.1.length : Int) = 0)) 93 rfl rfl rfl (by rw [hg_188]; rfl) ?_
                            refine lv (v := (.int .i64 e_121)) rfl rfl (r_move rfl) ?_
                            refine lg (b := decide ((r_127.1.length : Int) = 0)) 93 rfl rfl rfl (by rw [hg_188]; rfl) ?_
                            obtain ⟨r_189, hr_190, hm⟩ := bind_some hm
                            refine lc rfl rfl (r_call2 Try.call22 rfl rfl) (c_graph_Graph_Near 13 col_138 _ 1 (by decide) o_14 r_127.2.2 e_121 oh_135 r_189 hr_190) ?_
                            rintro _ w_194 ⟨col_196, ra_191, rc_192, rfl, hg_195, rh_193⟩
                            refine ⟨_, rfl, ?_⟩
                            replace h_98 := h_98.gr hg_195
                            replace h_102 := h_102.gr hg_195
                            replace h2 := h2.gr hg_195
                            replace oh_135 := oh_135.gr hg_195
                            replace rh_131 := rh_131.gr hg_195
                            replace rh_134 := rh_134.gr hg_195
                            replace hst := hst.grow hg_195
                            refine lg (b := decide ((r_127.1.length : Int) = 0)) 93 rfl rfl rfl (by rw [hg_188]; rfl) ?_
                            refine lv (v := (.int .i64 (r_189.length : Int))) rfl rfl (r_len Try.underlying22 rfl) ?_
                            refine lg (b := decide ((r_127.1.length : Int) = 0)) 93 rfl rfl rfl (by rw [hg_188]; rfl) ?_
                            refine lv (v := (.bool (!decide ((r_189.length : Int) = 0)))) rfl rfl (r_neq (r_189.length : Int) 0 rfl rfl) ?_
                            refine lv (v := (.bool (!decide ((r_189.length : Int) = 0)))) rfl rfl (r_pickF (congrArg Value.bool hg_188) rfl) ?_
                            refine lnil ?_
                            exact ⟨col_196, (!decide ((r_189.length : Int) = 0)), hm, hst, h_98, h_102, rh_131, rh_134, h2, oh_135, rfl, rfl, rfl, rfl, rfl, rfl, rfl, rfl, rfl, rfl, rfl⟩
                    · refine wseq ?_
                      refine wregion ?_
                      refine lv (v := (.int .i64 i_103)) rfl rfl (r_move rfl) ?_
                      refine lv (v := (.slice a2 p2_order.length cap2)) rfl rfl (r_move rfl) ?_
                      refine lv (v := (.int .i64 (p2_order.length : Int))) rfl rfl (r_len Try.underlying22 rfl) ?_
                      refine lv (v := (.bool (decide (i_103 < (p2_order.length : Int))))) rfl rfl (r_lss i_103 (p2_order.length : Int) rfl rfl) ?_
                      refine lnil ?_
                      refine wcond (decide (i_103 < (p2_order.length : Int))) rfl (fun hb => ?_) (fun hb => ?_)
                      · rw [if_pos hb] at hm
                        clear hb
                        refine wregion ?_
                        refine lv (v := (.slice a2 p2_order.length cap2)) rfl rfl (r_move rfl) ?_
                        refine lv (v := (.int .i64 i_103)) rfl rfl (r_move rfl) ?_
                        obtain ⟨e_197, hj_198, hm⟩ := bind_some hm
                        refine lv (v := (sptr a2 (Int.toNat i_103 * 1))) rfl rfl (r_idx Try.underlying22 Try.sizeOf3 rfl rfl (at?_some hj_198).1 (at?_some hj_198).2.1 (h2.addr hj_198)) ?_
                        refine lv (v := (.int .i64 e_197)) rfl rfl (r_ld Try.isAgg3 rfl (h2.atInt hj_198)) ?_
                        refine lv (v := (.slice a_96 left_95.length cap_97)) rfl rfl (r_move rfl) ?_
                        refine lv (v := (.int .i64 (left_95.length : Int))) rfl rfl (r_len Try.underlying22 rfl) ?_
                        obtain ⟨r_199, hr_200, hm⟩ := bind_some hm
                        refine lc rfl rfl (r_call2 Try.call21 rfl rfl) (c_credencelaw15_pick col_94 _ e_197 (left_95.length : Int) r_199 hr_200) ?_
                        rintro _ w_201 ⟨rfl, hg_202⟩
                        refine ⟨_, rfl, ?_⟩
                        replace hg_202 : Grow col_94 w_93 col_94 w_201 := .of_below hg_202
                        replace h_98 := h_98.gr hg_202
                        replace h_102 := h_102.gr hg_202
                        replace h2 := h2.gr hg_202
                        replace h_105 := h_105.gr hg_202
                        replace hst := hst.grow hg_202
                        refine lv (v := (.int .i64 r_199)) rfl rfl (r_assign rfl) ?_
                        refine lnil ?_
                        exact ⟨col_94, r_199, hm, hst, h_98, h_102, h2, h_105, rfl, rfl, rfl, rfl, rfl, rfl, rfl, rfl⟩
                      · rw [if_neg (by rw [hb]; decide)] at hm
                        clear hb
                        refine wskip ?_
                        exact ⟨col_94, 0, hm, hst, h_98, h_102, h2, h_105, rfl, rfl, rfl, rfl, rfl, rfl, rfl, rfl⟩
                · rw [if_neg (by rw [hb]; decide)] at hm
                  clear hb
                  refine wexit (inB_hit ?_)
                  refine wseq ?_
                  refine wseq ?_
                  refine wregion ?_
                  refine lv (v := (.int .i64 0)) rfl rfl (r_assign rfl) ?_
                  refine lnil ?_
                  refine wblock ?_
                  refine wloop (fun n f w_204 => ∃ (col_205 : Col) (i_206 : Int) (n_203 : Nat), n_203 = n ∧ m_credencelaw15_GraphFilled_L6 N cliques_99 g_104 n_203 i_206 = some r ∧ St w0 (col0 col) col_205 w_204 ∧ Own (Rep.row 3 (Rep.int .i64)) 22 8 col_205 w_204 a_100 cap_101 cliques_99 ∧ GO 85 86 1 col_205 w_204 o_14 g_104 ∧ f 12 = (.slice a_100 cliques_99.length cap_101) ∧ f 22 = (.int .i64 i_206) ∧ f 8 = (.pointer (some ⟨o_14.g, 0, none⟩)) ∧ f 9 = (.pointer none) ∧ f 1000000 = (enc [])) N ⟨col_94, 0, N, rfl, hm, hst, h_102, h_105, rfl, rfl, rfl, rfl, rfl⟩ ?_
                  clear hm; intro n f w_204 hI
                  obtain ⟨col_205, i_206, n_203, hn, hm, hst, h_102, h_105, hs12, hs22, hs8, hs9, hs1000000⟩ := hI
                  subst hn
                  refine .ld (d := 12) (v := (.slice a_100 cliques_99.length cap_101)) hs12 ?_
                  refine .ld (d := 22) (v := (.int .i64 i_206)) hs22 ?_
                  refine .ld (d := 8) (v := (.pointer (some ⟨o_14.g, 0, none⟩))) hs8 ?_
                  refine .ld (d := 9) (v := (.pointer none)) hs9 ?_
                  refine .ld (d := 1000000) (v := (enc [])) hs1000000 ?_
                  clear hs12 hs22 hs8 hs9 hs1000000
                  cases n_203 with
                  | zero => rw [m_credencelaw15_GraphFilled_L6.eq_1] at hm; cases hm
                  | succ n_203 =>
                    rw [m_credencelaw15_GraphFilled_L6.eq_2] at hm
                    refine wseq ?_
                    refine wseq ?_
                    refine wregion ?_
                    refine lv (v := (.int .i64 i_206)) rfl rfl (r_move rfl) ?_
                    refine lv (v := (.slice a_100 cliques_99.length cap_101)) rfl rfl (r_move rfl) ?_
                    refine lv (v := (.int .i64 (cliques_99.length : Int))) rfl rfl (r_len Try.underlying33 rfl) ?_
                    refine lv (v := (.bool (decide (i_206 < (cliques_99.length : Int))))) rfl rfl (r_lss i_206 (cliques_99.length : Int) rfl rfl) ?_
                    refine lnil ?_
                    refine wcond (decide (i_206 < (cliques_99.length : Int))) rfl (fun hb => ?_) (fun hb => ?_)
                    · rw [if_pos hb] at hm
                      clear hb
                      refine wskip ?_
                      refine wseq ?_
                      refine wblock ?_
                      refine wseq ?_
                      refine wregion ?_
                      refine lv (v := (.int .i64 0)) rfl rfl (r_assign rfl) ?_
                      refine lnil ?_
                      refine wblock ?_
                      refine wloop (fun n f w_208 => ∃ (col_209 : Col) (a_210 : Int) (n_207 : Nat), n_207 = n ∧ m_credencelaw15_GraphFilled_L7 N cliques_99 i_206 (m_credencelaw15_GraphFilled_L6 N cliques_99 g_104 n_203) n_207 a_210 = some r ∧ St w0 (col0 col) col_209 w_208 ∧ Own (Rep.row 3 (Rep.int .i64)) 22 8 col_209 w_208 a_100 cap_101 cliques_99 ∧ GO 85 86 1 col_209 w_208 o_14 g_104 ∧ f 12 = (.slice a_100 cliques_99.length cap_101) ∧ f 22 = (.int .i64 i_206) ∧ f 23 = (.int .i64 a_210) ∧ f 8 = (.pointer (some ⟨o_14.g, 0, none⟩)) ∧ f 9 = (.pointer none) ∧ f 1000000 = (enc [])) N ⟨col_205, 0, N, rfl, hm, hst, h_102, h_105, rfl, rfl, rfl, rfl, rfl, rfl⟩ ?_
                      clear hm; intro n f w_208 hI
                      obtain ⟨col_209, a_210, n_207, hn, hm, hst, h_102, h_105, hs12, hs22, hs23, hs8, hs9, hs1000000⟩ := hI
                      subst hn
                      refine .ld (d := 12) (v := (.slice a_100 cliques_99.length cap_101)) hs12 ?_
                      refine .ld (d := 22) (v := (.int .i64 i_206)) hs22 ?_
                      refine .ld (d := 23) (v := (.int .i64 a_210)) hs23 ?_
                      refine .ld (d := 8) (v := (.pointer (some ⟨o_14.g, 0, none⟩))) hs8 ?_
                      refine .ld (d := 9) (v := (.pointer none)) hs9 ?_
                      refine .ld (d := 1000000) (v := (enc [])) hs1000000 ?_
                      clear hs12 hs22 hs23 hs8 hs9 hs1000000
                      cases n_207 with
                      | zero => rw [m_credencelaw15_GraphFilled_L7.eq_1] at hm; cases hm
                      | succ n_207 =>
                        rw [m_credencelaw15_GraphFilled_L7.eq_2] at hm
                        refine wseq ?_
                        refine wseq ?_
                        refine wregion ?_
                        refine lv (v := (.int .i64 a_210)) rfl rfl (r_move rfl) ?_
                        refine lv (v := (.slice a_100 cliques_99.length cap_101)) rfl rfl (r_move rfl) ?_
                        refine lv (v := (.int .i64 i_206)) rfl rfl (r_move rfl) ?_
                        obtain ⟨e_211, hj_212, hm⟩ := bind_some hm
                        refine lv (v := (sptr a_100 (Int.toNat i_206 * 1))) rfl rfl (r_idx Try.underlying33 Try.sizeOf22 rfl rfl (at?_some hj_212).1 (at?_some hj_212).2.1 (h_102.addr hj_212)) ?_
                        obtain ⟨_, hr_213, hA_214⟩ := h_102.atN hj_212
                        obtain ⟨a_215, cap_216, rfl, h_217⟩ := hr_213.row
                        refine lv (v := (.slice a_215 e_211.length cap_216)) rfl rfl (r_ld Try.isAgg22 rfl hA_214.one) ?_
                        refine lv (v := (.int .i64 (e_211.length : Int))) rfl rfl (r_len Try.underlying22 rfl) ?_
                        refine lv (v := (.bool (decide (a_210 < (e_211.length : Int))))) rfl rfl (r_lss a_210 (e_211.length : Int) rfl rfl) ?_
                        refine lnil ?_
                        refine wcond (decide (a_210 < (e_211.length : Int))) rfl (fun hb => ?_) (fun hb => ?_)
                        · rw [if_pos hb] at hm
                          clear hb
                          refine wskip ?_
                          refine wseq ?_
                          refine wblock ?_
                          refine wseq ?_
                          refine wregion ?_
                          refine lv (v := (.int .i64 0)) rfl rfl (r_assign rfl) ?_
                          refine lnil ?_
                          refine wblock ?_
                          refine wloop (fun n f w_219 => ∃ (col_220 : Col) (b_221 : Int) (n_218 : Nat), n_218 = n ∧ m_credencelaw15_GraphFilled_L8 N a_210 (m_credencelaw15_GraphFilled_L7 N cliques_99 i_206 (m_credencelaw15_GraphFilled_L6 N cliques_99 g_104 n_203) n_207) n_218 b_221 = some r ∧ St w0 (col0 col) col_220 w_219 ∧ Own (Rep.row 3 (Rep.int .i64)) 22 8 col_220 w_219 a_100 cap_101 cliques_99 ∧ GO 85 86 1 col_220 w_219 o_14 g_104 ∧ f 12 = (.slice a_100 cliques_99.length cap_101) ∧ f 22 = (.int .i64 i_206) ∧ f 23 = (.int .i64 a_210) ∧ f 24 = (.int .i64 b_221) ∧ f 8 = (.pointer (some ⟨o_14.g, 0, none⟩)) ∧ f 9 = (.pointer none) ∧ f 1000000 = (enc [])) N ⟨col_209, 0, N, rfl, hm, hst, h_102, h_105, rfl, rfl, rfl, rfl, rfl, rfl, rfl⟩ ?_
                          clear hm; intro n f w_219 hI
                          obtain ⟨col_220, b_221, n_218, hn, hm, hst, h_102, h_105, hs12, hs22, hs23, hs24, hs8, hs9, hs1000000⟩ := hI
                          subst hn
                          refine .ld (d := 12) (v := (.slice a_100 cliques_99.length cap_101)) hs12 ?_
                          refine .ld (d := 22) (v := (.int .i64 i_206)) hs22 ?_
                          refine .ld (d := 23) (v := (.int .i64 a_210)) hs23 ?_
                          refine .ld (d := 24) (v := (.int .i64 b_221)) hs24 ?_
                          refine .ld (d := 8) (v := (.pointer (some ⟨o_14.g, 0, none⟩))) hs8 ?_
                          refine .ld (d := 9) (v := (.pointer none)) hs9 ?_
                          refine .ld (d := 1000000) (v := (enc [])) hs1000000 ?_
                          clear hs12 hs22 hs23 hs24 hs8 hs9 hs1000000
                          cases n_218 with
                          | zero => rw [m_credencelaw15_GraphFilled_L8.eq_1] at hm; cases hm
                          | succ n_218 =>
                            rw [m_credencelaw15_GraphFilled_L8.eq_2] at hm
                            refine wseq ?_
                            refine wseq ?_
                            refine wregion ?_
                            refine lv (v := (.int .i64 b_221)) rfl rfl (r_move rfl) ?_
                            refine lv (v := (.int .i64 a_210)) rfl rfl (r_move rfl) ?_
                            refine lv (v := (.bool (decide (b_221 < a_210)))) rfl rfl (r_lss b_221 a_210 rfl rfl) ?_
                            refine lnil ?_
                            refine wcond (decide (b_221 < a_210)) rfl (fun hb => ?_) (fun hb => ?_)
                            · rw [if_pos hb] at hm
                              clear hb
                              cases hm
                            · rw [if_neg (by rw [hb]; decide)] at hm
                              clear hb
                              refine wexit (inB_hit ?_)
                              refine wregion ?_
                              refine lv (v := (.int .i64 a_210)) rfl rfl (r_move rfl) ?_
                              refine lv (v := (.int .i64 (IntKind.i64.wrap (a_210 + 1)))) rfl rfl (r_add a_210 1 rfl rfl) ?_
                              refine lv (v := (.int .i64 (IntKind.i64.wrap (a_210 + 1)))) rfl rfl (r_assign rfl) ?_
                              refine lnil ?_
                              exact ⟨n_207, by omega, ⟨col_220, (IntKind.i64.wrap (a_210 + 1)), n_207, rfl, hm, hst, h_102, h_105, rfl, rfl, rfl, rfl, rfl, rfl⟩⟩
                        · rw [if_neg (by rw [hb]; decide)] at hm
                          clear hb
                          refine wexit (inB_hit ?_)
                          refine wregion ?_
                          refine lv (v := (.int .i64 i_206)) rfl rfl (r_move rfl) ?_
                          refine lv (v := (.int .i64 (IntKind.i64.wrap (i_206 + 1)))) rfl rfl (r_add i_206 1 rfl rfl) ?_
                          refine lv (v := (.int .i64 (IntKind.i64.wrap (i_206 + 1)))) rfl rfl (r_assign rfl) ?_
                          refine lnil ?_
                          exact ⟨n_203, by omega, ⟨col_209, (IntKind.i64.wrap (i_206 + 1)), n_203, rfl, hm, hst, h_102, h_105, rfl, rfl, rfl, rfl, rfl⟩⟩
                    · rw [if_neg (by rw [hb]; decide)] at hm
                      clear hb
                      refine wexit (inB_hit ?_)
                      refine wseq ?_
                      refine wregion ?_
                      refine lv (v := (.pointer (some ⟨o_14.g, 0, none⟩))) rfl rfl (r_move rfl) ?_
                      obtain ⟨r_222, hr_223, hm⟩ := bind_some hm
                      refine lc rfl rfl (r_call1 Try.call25 rfl) (c_credencelaw15_listed N 14 col_205 _ 1 (by decide) o_14 g_104 h_105 r_222 hr_223) ?_
                      rintro _ w_227 ⟨col_229, ra_224, rc_225, rfl, hg_228, rh_226⟩
                      refine ⟨_, rfl, ?_⟩
                      replace h_105 := h_105.gr hg_228
                      replace hst := hst.grow hg_228
                      refine lv (v := (.tuple #[(.slice ra_224 r_222.1.length rc_225), (.bool r_222.2)])) rfl rfl (r_move rfl) ?_
                      refine lv (v := (.slice ra_224 r_222.1.length rc_225)) rfl rfl (r_extract rfl rfl) ?_
                      refine lv (v := (.bool r_222.2)) rfl rfl (r_extract rfl rfl) ?_
                      refine lv (v := (.slice ra_224 r_222.1.length rc_225)) rfl rfl (r_assign rfl) ?_
                      refine lv (v := (.bool r_222.2)) rfl rfl (r_assign rfl) ?_
                      refine lnil ?_
                      refine wseq ?_
                      refine Wp.cut (fun f w_232 => ∃ (col_233 : Col) (v_234 : Bool), m_credencelaw15_GraphFilled_J7 v_234 = some r ∧ St w0 (col0 col) col_233 w_232 ∧ f 6 = (.bool v_234) ∧ f 1000000 = (enc [])) ?_ ?_
                      · intro f w_232 hJ
                        obtain ⟨col_233, v_234, hm, hst, hs6, hs1000000⟩ := hJ
                        rw [m_credencelaw15_GraphFilled_J7.eq_1] at hm
                        refine .ld (d := 6) (v := (.bool v_234)) hs6 ?_
                        refine .ld (d := 1000000) (v := (enc [])) hs1000000 ?_
                        clear hs6 hs1000000
                        refine wret ?_
                        cases hm
                        exact ⟨rfl, rfl, hst.below⟩
                      · refine wregion ?_
                        refine lv (v := (.bool r_222.2)) rfl rfl (r_move rfl) ?_
                        refine lv (v := (.bool r_222.2)) rfl rfl (r_move rfl) ?_
                        by_cases hg_235 : r_222.2 = true
                        · rw [if_pos hg_235] at hm
                          refine lg (b := r_222.2) 179 rfl rfl rfl (by rw [hg_235]; rfl) ?_
                          refine lv (v := (.slice ra_224 r_222.1.length rc_225)) rfl rfl (r_move rfl) ?_
                          refine lg (b := r_222.2) 179 rfl rfl rfl (by rw [hg_235]; rfl) ?_
                          refine lv (v := (.int .i64 (r_222.1.length : Int))) rfl rfl (r_len Try.underlying29 rfl) ?_
                          refine lg (b := r_222.2) 179 rfl rfl rfl (by rw [hg_235]; rfl) ?_
                          refine lv (v := (.bool (decide ((r_222.1.length : Int) = 0)))) rfl rfl (r_eql (r_222.1.length : Int) 0 rfl rfl) ?_
                          refine lv (v := (.bool (decide ((r_222.1.length : Int) = 0)))) rfl rfl (r_pickT (congrArg Value.bool hg_235) rfl) ?_
                          refine lv (v := (.bool (decide ((r_222.1.length : Int) = 0)))) rfl rfl (r_move rfl) ?_
                          by_cases hg_236 : (decide ((r_222.1.length : Int) = 0)) = true
                          · rw [if_pos hg_236] at hm
                            refine lg (b := decide ((r_222.1.length : Int) = 0)) 184 rfl rfl rfl (by rw [hg_236]; rfl) ?_
                            refine lv (v := (.pointer none)) rfl rfl (r_move rfl) ?_
                            refine lg (b := decide ((r_222.1.length : Int) = 0)) 184 rfl rfl rfl (by rw [hg_236]; rfl) ?_
                            cases hm
                          · rw [if_neg hg_236] at hm
                            replace hg_236 := Bool.eq_false_iff.2 hg_236
                            refine lp (b := decide ((r_222.1.length : Int) = 0)) 184 rfl rfl rfl rfl (by rw [hg_236]; rfl) ?_
                            refine lp (b := decide ((r_222.1.length : Int) = 0)) 184 rfl rfl rfl rfl (by rw [hg_236]; rfl) ?_
                            refine lv (v := (.bool false)) rfl rfl (r_pickF (congrArg Value.bool hg_236) rfl) ?_
                            refine lv (v := (.bool false)) rfl rfl (r_assign rfl) ?_
                            refine lnil ?_
                            exact ⟨col_229, false, hm, hst, rfl, rfl⟩
                        · rw [if_neg hg_235] at hm
                          replace hg_235 := Bool.eq_false_iff.2 hg_235
                          refine lp (b := r_222.2) 179 rfl rfl rfl rfl (by rw [hg_235]; rfl) ?_
                          refine lp (b := r_222.2) 179 rfl rfl rfl rfl (by rw [hg_235]; rfl) ?_
                          refine lp (b := r_222.2) 179 rfl rfl rfl rfl (by rw [hg_235]; rfl) ?_
                          refine lv (v := (.bool false)) rfl rfl (r_pickF (congrArg Value.bool hg_235) rfl) ?_
                          refine lv (v := (.bool false)) rfl rfl (r_move rfl) ?_
                          refine lp (b := false) 184 rfl rfl rfl rfl rfl ?_
                          refine lp (b := false) 184 rfl rfl rfl rfl rfl ?_
                          refine lv (v := (.bool false)) rfl rfl (r_pickF rfl rfl) ?_
                          refine lv (v := (.bool false)) rfl rfl (r_assign rfl) ?_
                          refine lnil ?_
                          exact ⟨col_229, false, hm, hst, rfl, rfl⟩
      · refine wregion ?_
        refine lv (v := (.bool r_1)) rfl rfl (r_move rfl) ?_
        refine lv (v := (.bool (!r_1))) rfl rfl (r_not r_1 rfl) ?_
        refine lv (v := (.bool (!r_1))) rfl rfl (r_move rfl) ?_
        by_cases hg_237 : (!r_1) = true
        · rw [if_pos hg_237] at hm
          refine lp (b := !r_1) 37 rfl rfl rfl rfl (by rw [hg_237]; rfl) ?_
          refine lp (b := !r_1) 37 rfl rfl rfl rfl (by rw [hg_237]; rfl) ?_
          refine lv (v := (.bool true)) rfl rfl (r_pickT (congrArg Value.bool hg_237) rfl) ?_
          refine lv (v := (.bool true)) rfl rfl (r_move rfl) ?_
          refine lp (b := true) 41 rfl rfl rfl rfl rfl ?_
          refine lp (b := true) 41 rfl rfl rfl rfl rfl ?_
          refine lv (v := (.bool true)) rfl rfl (r_pickT rfl rfl) ?_
          refine lnil ?_
          exact ⟨col_59, true, hm, hst, h2, hG_15, rfl, rfl, rfl, rfl, rfl⟩
        · rw [if_neg hg_237] at hm
          replace hg_237 := Bool.eq_false_iff.2 hg_237
          refine lg (b := !r_1) 37 rfl rfl rfl (by rw [hg_237]; rfl) ?_
          refine lv (v := (.pointer (some ⟨o_14.g, 0, none⟩))) rfl rfl (r_move rfl) ?_
          refine lg (b := !r_1) 37 rfl rfl rfl (by rw [hg_237]; rfl) ?_
          refine lv (v := (.bool false)) rfl rfl (r_eqlP1 ⟨_, Try.underlying24⟩ rfl rfl) ?_
          refine lv (v := (.bool false)) rfl rfl (r_pickF (congrArg Value.bool hg_237) rfl) ?_
          refine lv (v := (.bool false)) rfl rfl (r_move rfl) ?_
          refine lg (b := false) 41 rfl rfl rfl rfl ?_
          refine lv (v := (.pointer none)) rfl rfl (r_move rfl) ?_
          refine lg (b := false) 41 rfl rfl rfl rfl ?_
          refine lv (v := (.bool true)) rfl rfl (r_eqlP0 ⟨_, Try.underlying24⟩ rfl rfl) ?_
          refine lv (v := (.bool true)) rfl rfl (r_pickF rfl rfl) ?_
          refine lnil ?_
          exact ⟨col_59, true, hm, hst, h2, hG_15, rfl, rfl, rfl, rfl, rfl⟩
    | some t_60 =>
      rw [hx_61] at hm rh_56
      replace hm := optC_some hm
      obtain ⟨o_62, rfl, hG_63⟩ := optP_some rh_56
      refine lv (v := (.pointer (some ⟨o_62.g, 0, none⟩))) rfl rfl (r_assign rfl) ?_
      refine lnil ?_
      refine wseq ?_
      refine wseq ?_
      refine Wp.cut (fun f w_239 => ∃ (col_240 : Col) (v_241 : Bool), m_credencelaw15_GraphFilled_J8 N p2_order t_12 t_60 v_241 = some r ∧ St w0 (col0 col) col_240 w_239 ∧ Sl (Rep.int .i64) col_240 w_239 a2 cap2 p2_order ∧ GO 85 86 1 col_240 w_239 o_14 t_12 ∧ GO 85 86 5 col_240 w_239 o_62 t_60 ∧ f 2 = (.slice a2 p2_order.length cap2) ∧ f 44 = (.bool v_241) ∧ f 8 = (.pointer (some ⟨o_14.g, 0, none⟩)) ∧ f 9 = (.pointer (some ⟨o_62.g, 0, none⟩)) ∧ f 1000000 = (enc [])) ?_ ?_
      · intro f w_239 hJ
        obtain ⟨col_240, v_241, hm, hst, h2, hG_15, hG_63, hs2, hs44, hs8, hs9, hs1000000⟩ := hJ
        rw [m_credencelaw15_GraphFilled_J8.eq_1] at hm
        refine .ld (d := 2) (v := (.slice a2 p2_order.length cap2)) hs2 ?_
        refine .ld (d := 44) (v := (.bool v_241)) hs44 ?_
        refine .ld (d := 8) (v := (.pointer (some ⟨o_14.g, 0, none⟩))) hs8 ?_
        refine .ld (d := 9) (v := (.pointer (some ⟨o_62.g, 0, none⟩))) hs9 ?_
        refine .ld (d := 1000000) (v := (enc [])) hs1000000 ?_
        clear hs2 hs44 hs8 hs9 hs1000000
        refine wcond (v_241) rfl (fun hb => ?_) (fun hb => ?_)
        · rw [if_pos hb] at hm
          clear hb
          refine wseq ?_
          refine wregion ?_
          refine lv (v := (.bool false)) rfl rfl (r_assign rfl) ?_
          refine lnil ?_
          refine wret ?_
          cases hm
          exact ⟨rfl, rfl, hst.below⟩
        · rw [if_neg (by rw [hb]; decide)] at hm
          clear hb
          refine wskip ?_
          refine wseq ?_
          refine wregion ?_
          refine lv (v := (.slice none (([] : List Int).length) 0)) rfl rfl (r_assign rfl) ?_
          refine lnil ?_
          refine wseq ?_
          refine wseq ?_
          refine wregion ?_
          refine lv (v := (.int .i64 0)) rfl rfl (r_assign rfl) ?_
          refine lnil ?_
          refine wblock ?_
          refine wloop (fun n f w_243 => ∃ (col_244 : Col) (a_246 : Option Addr) (cap_247 : Nat) (left_245 : List Int) (i_249 : Int) (n_242 : Nat), n_242 = n ∧ m_credencelaw15_GraphFilled_L9 N p2_order t_12 t_60 n_242 left_245 i_249 = some r ∧ St w0 (col0 col) col_244 w_243 ∧ Own (Rep.int .i64) 3 15 col_244 w_243 a_246 cap_247 left_245 ∧ Sl (Rep.int .i64) col_244 w_243 a2 cap2 p2_order ∧ GO 85 86 1 col_244 w_243 o_14 t_12 ∧ GO 85 86 5 col_244 w_243 o_62 t_60 ∧ f 10 = (.slice a_246 left_245.length cap_247) ∧ f 11 = (.int .i64 i_249) ∧ f 2 = (.slice a2 p2_order.length cap2) ∧ f 8 = (.pointer (some ⟨o_14.g, 0, none⟩)) ∧ f 9 = (.pointer (some ⟨o_62.g, 0, none⟩)) ∧ f 1000000 = (enc [])) N ⟨col_240, none, 0, ([] : List Int), 0, N, rfl, hm, hst, Own.nil, h2, hG_15, hG_63, rfl, rfl, rfl, rfl, rfl, rfl⟩ ?_
          clear hm; intro n f w_243 hI
          obtain ⟨col_244, a_246, cap_247, left_245, i_249, n_242, hn, hm, hst, h_248, h2, hG_15, hG_63, hs10, hs11, hs2, hs8, hs9, hs1000000⟩ := hI
          subst hn
          refine .ld (d := 10) (v := (.slice a_246 left_245.length cap_247)) hs10 ?_
          refine .ld (d := 11) (v := (.int .i64 i_249)) hs11 ?_
          refine .ld (d := 2) (v := (.slice a2 p2_order.length cap2)) hs2 ?_
          refine .ld (d := 8) (v := (.pointer (some ⟨o_14.g, 0, none⟩))) hs8 ?_
          refine .ld (d := 9) (v := (.pointer (some ⟨o_62.g, 0, none⟩))) hs9 ?_
          refine .ld (d := 1000000) (v := (enc [])) hs1000000 ?_
          clear hs10 hs11 hs2 hs8 hs9 hs1000000
          cases n_242 with
          | zero => rw [m_credencelaw15_GraphFilled_L9.eq_1] at hm; cases hm
          | succ n_242 =>
            rw [m_credencelaw15_GraphFilled_L9.eq_2] at hm
            refine wseq ?_
            refine wseq ?_
            refine wregion ?_
            refine lv (v := (.int .i64 i_249)) rfl rfl (r_move rfl) ?_
            refine lv (v := (.pointer (some ⟨o_14.g, 0, none⟩))) rfl rfl (r_move rfl) ?_
            obtain ⟨r_250, hr_251, hm⟩ := bind_some hm
            refine lc rfl rfl (r_call1 Try.call15 rfl) (c_graph_Graph_Len col_244 _ 1 (by decide) o_14 t_12 hG_15 r_250 hr_251) ?_
            rintro _ w_252 ⟨rfl, hg_253⟩
            refine ⟨_, rfl, ?_⟩
            replace hg_253 : Grow col_244 w_243 col_244 w_252 := .of_below hg_253
            replace h_248 := h_248.gr hg_253
            replace h2 := h2.gr hg_253
            replace hG_15 := hG_15.gr hg_253
            replace hG_63 := hG_63.gr hg_253
            replace hst := hst.grow hg_253
            refine lv (v := (.bool (decide (i_249 < r_250)))) rfl rfl (r_lss i_249 r_250 rfl rfl) ?_
            refine lnil ?_
            refine wcond (decide (i_249 < r_250)) rfl (fun hb => ?_) (fun hb => ?_)
            · rw [if_pos hb] at hm
              clear hb
              refine wskip ?_
              refine wseq ?_
              refine wblock ?_
              refine wregion ?_
              refine lv (v := (.slice a_246 left_245.length cap_247)) rfl rfl (r_move rfl) ?_
              refine lv (v := (.int .i64 i_249)) rfl rfl (r_move rfl) ?_
              refine l_lit (col := col_244) (r := (Rep.int .i64)) (xs := [i_249]) [(.int .i64 i_249)] 16 rfl Try.underlying22 el3_5 rfl rfl rfl rfl rfl rfl (by intro v hv; simp only [List.mem_cons, List.not_mem_nil, or_false] at hv; subst hv; rfl) (RowsH.ofF (Rows.consF (r := (Rep.int .i64)) (x := i_249) (cs := [(.int .i64 i_249)]) (rd_int .i64 i_249) Rows.nil0)) ?_
              intro a_254 w_255 col_256 hg_257 h_258
              replace h2 := h2.gr hg_257
              replace hG_15 := hG_15.gr hg_257
              replace hG_63 := hG_63.gr hg_257
              replace h_248 := h_248.gr hg_257
              replace hst := hst.grow hg_257
              obtain ⟨hb_259, hm⟩ := chk_some hm
              refine l_appendM (col := col_256) (w := w_255) (r := (Rep.int .i64)) (c := 15) (c2 := 15) (xs := left_245) (ys := [i_249]) h_248 (h_258.srcN (NB.int (k := .i64))) rfl Try.underlying22 el3_5 rfl rfl rfl hb_259.1 hb_259.2 (by decide) ?_
              intro a_260 cap_261 w_262 col_263 hk_264 h_265
              replace h2 := h2.kpp hk_264 rfl
              replace hG_15 := hG_15.kpp hk_264 rfl rfl
              replace hG_63 := hG_63.kpp hk_264 rfl rfl
              replace h_258 := h_258.kpp hk_264 rfl rfl
              replace hst := hst.kpp hk_264 rfl rfl
              clear h_248
              refine lv (v := (.slice a_260 ((left_245 ++ [i_249]).length) cap_261)) rfl rfl (r_assign rfl) ?_
              refine lnil ?_
              refine wregion ?_
              refine lv (v := (.int .i64 i_249)) rfl rfl (r_move rfl) ?_
              refine lv (v := (.int .i64 (IntKind.i64.wrap (i_249 + 1)))) rfl rfl (r_add i_249 1 rfl rfl) ?_
              refine lv (v := (.int .i64 (IntKind.i64.wrap (i_249 + 1)))) rfl rfl (r_assign rfl) ?_
              refine lnil ?_
              exact ⟨n_242, by omega, ⟨col_263, a_260, cap_261, (left_245 ++ [i_249]), (IntKind.i64.wrap (i_249 + 1)), n_242, rfl, hm, hst, h_265, h2, hG_15, hG_63, rfl, rfl, rfl, rfl, rfl, rfl⟩⟩
            · rw [if_neg (by rw [hb]; decide)] at hm
              clear hb
              refine wexit (inB_hit ?_)
              refine wseq ?_
              refine wregion ?_
              refine lv (v := (.slice none (([] : List (List Int)).length) 0)) rfl rfl (r_assign rfl) ?_
              refine lnil ?_
              refine wseq ?_
              refine wseq ?_
              refine wregion ?_
              refine lv (v := (.int .i64 0)) rfl rfl (r_assign rfl) ?_
              refine lnil ?_
              refine wblock ?_
              refine wloop (fun n f w_267 => ∃ (col_268 : Col) (a_270 : Option Addr) (cap_271 : Nat) (left_269 : List Int) (a_274 : Option Addr) (cap_275 : Nat) (cliques_273 : List (List Int)) (i_277 : Int) (g_278 : List (List Bool)) (h_280 : List (List Bool)) (n_266 : Nat), n_266 = n ∧ m_credencelaw15_GraphFilled_L10 N p2_order n_266 left_269 cliques_273 i_277 g_278 h_280 = some r ∧ St w0 (col0 col) col_268 w_267 ∧ Own (Rep.int .i64) 3 15 col_268 w_267 a_270 cap_271 left_269 ∧ Own (Rep.row 3 (Rep.int .i64)) 22 17 col_268 w_267 a_274 cap_275 cliques_273 ∧ Sl (Rep.int .i64) col_268 w_267 a2 cap2 p2_order ∧ GO 85 86 1 col_268 w_267 o_14 g_278 ∧ GO 85 86 5 col_268 w_267 o_62 h_280 ∧ f 10 = (.slice a_270 left_269.length cap_271) ∧ f 12 = (.slice a_274 cliques_273.length cap_275) ∧ f 13 = (.int .i64 i_277) ∧ f 2 = (.slice a2 p2_order.length cap2) ∧ f 8 = (.pointer (some ⟨o_14.g, 0, none⟩)) ∧ f 9 = (.pointer (some ⟨o_62.g, 0, none⟩)) ∧ f 1000000 = (enc [])) N ⟨col_244, a_246, cap_247, left_245, none, 0, ([] : List (List Int)), 0, t_12, t_60, N, rfl, hm, hst, h_248, Own.nil, h2, hG_15, hG_63, rfl, rfl, rfl, rfl, rfl, rfl, rfl⟩ ?_
              clear hm; intro n f w_267 hI
              obtain ⟨col_268, a_270, cap_271, left_269, a_274, cap_275, cliques_273, i_277, g_278, h_280, n_266, hn, hm, hst, h_272, h_276, h2, h_279, h_281, hs10, hs12, hs13, hs2, hs8, hs9, hs1000000⟩ := hI
              subst hn
              refine .ld (d := 10) (v := (.slice a_270 left_269.length cap_271)) hs10 ?_
              refine .ld (d := 12) (v := (.slice a_274 cliques_273.length cap_275)) hs12 ?_
              refine .ld (d := 13) (v := (.int .i64 i_277)) hs13 ?_
              refine .ld (d := 2) (v := (.slice a2 p2_order.length cap2)) hs2 ?_
              refine .ld (d := 8) (v := (.pointer (some ⟨o_14.g, 0, none⟩))) hs8 ?_
              refine .ld (d := 9) (v := (.pointer (some ⟨o_62.g, 0, none⟩))) hs9 ?_
              refine .ld (d := 1000000) (v := (enc [])) hs1000000 ?_
              clear hs10 hs12 hs13 hs2 hs8 hs9 hs1000000
              cases n_266 with
              | zero => rw [m_credencelaw15_GraphFilled_L10.eq_1] at hm; cases hm
              | succ n_266 =>
                rw [m_credencelaw15_GraphFilled_L10.eq_2] at hm
                refine wseq ?_
                refine wseq ?_
                refine wregion ?_
                refine lv (v := (.slice a_270 left_269.length cap_271)) rfl rfl (r_move rfl) ?_
                refine lv (v := (.int .i64 (left_269.length : Int))) rfl rfl (r_len Try.underlying22 rfl) ?_
                refine lv (v := (.bool (decide (0 < (left_269.length : Int))))) rfl rfl (r_gtr (left_269.length : Int) 0 rfl rfl) ?_
                refine lnil ?_
                refine wcond (decide (0 < (left_269.length : Int))) rfl (fun hb => ?_) (fun hb => ?_)
                · rw [if_pos hb] at hm
                  clear hb
                  refine wskip ?_
                  refine wseq ?_
                  refine Wp.cut (fun f w_282 => ∃ (col_283 : Col) (a_285 : Option Addr) (cap_286 : Nat) (left_284 : List Int) (a_289 : Option Addr) (cap_290 : Nat) (cliques_288 : List (List Int)) (g_292 : List (List Bool)) (h_294 : List (List Bool)), m_credencelaw15_GraphFilled_J9 i_277 (m_credencelaw15_GraphFilled_L10 N p2_order n_266) left_284 cliques_288 g_292 h_294 = some r ∧ St w0 (col0 col) col_283 w_282 ∧ Own (Rep.int .i64) 3 15 col_283 w_282 a_285 cap_286 left_284 ∧ Own (Rep.row 3 (Rep.int .i64)) 22 17 col_283 w_282 a_289 cap_290 cliques_288 ∧ Sl (Rep.int .i64) col_283 w_282 a2 cap2 p2_order ∧ GO 85 86 1 col_283 w_282 o_14 g_292 ∧ GO 85 86 5 col_283 w_282 o_62 h_294 ∧ f 10 = (.slice a_285 left_284.length cap_286) ∧ f 12 = (.slice a_289 cliques_288.length cap_290) ∧ f 13 = (.int .i64 i_277) ∧ f 2 = (.slice a2 p2_order.length cap2) ∧ f 8 = (.pointer (some ⟨o_14.g, 0, none⟩)) ∧ f 9 = (.pointer (some ⟨o_62.g, 0, none⟩)) ∧ f 1000000 = (enc [])) ?_ ?_
                  · intro f w_282 hJ
                    obtain ⟨col_283, a_285, cap_286, left_284, a_289, cap_290, cliques_288, g_292, h_294, hm, hst, h_287, h_291, h2, h_293, h_295, hs10, hs12, hs13, hs2, hs8, hs9, hs1000000⟩ := hJ
                    rw [m_credencelaw15_GraphFilled_J9.eq_1] at hm
                    refine .ld (d := 10) (v := (.slice a_285 left_284.length cap_286)) hs10 ?_
                    refine .ld (d := 12) (v := (.slice a_289 cliques_288.length cap_290)) hs12 ?_
                    refine .ld (d := 13) (v := (.int .i64 i_277)) hs13 ?_
                    refine .ld (d := 2) (v := (.slice a2 p2_order.length cap2)) hs2 ?_
                    refine .ld (d := 8) (v := (.pointer (some ⟨o_14.g, 0, none⟩))) hs8 ?_
                    refine .ld (d := 9) (v := (.pointer (some ⟨o_62.g, 0, none⟩))) hs9 ?_
                    refine .ld (d := 1000000) (v := (enc [])) hs1000000 ?_
                    clear hs10 hs12 hs13 hs2 hs8 hs9 hs1000000
                    refine wregion ?_
                    refine lv (v := (.int .i64 i_277)) rfl rfl (r_move rfl) ?_
                    refine lv (v := (.int .i64 (IntKind.i64.wrap (i_277 + 1)))) rfl rfl (r_add i_277 1 rfl rfl) ?_
                    refine lv (v := (.int .i64 (IntKind.i64.wrap (i_277 + 1)))) rfl rfl (r_assign rfl) ?_
                    refine lnil ?_
                    exact ⟨n_266, by omega, ⟨col_283, a_285, cap_286, left_284, a_289, cap_290, cliques_288, (IntKind.i64.wrap (i_277 + 1)), g_292, h_294, n_266, rfl, hm, hst, h_287, h_291, h2, h_293, h_295, rfl, rfl, rfl, rfl, rfl, rfl, rfl⟩⟩
                  · refine wblock ?_
                    refine wseq ?_
                    refine wregion ?_
                    refine lv (v := (.int .i64 0)) rfl rfl (r_assign rfl) ?_
                    refine lnil ?_
                    refine wseq ?_
                    refine Wp.cut (fun f w_296 => ∃ (col_297 : Col) (k_298 : Int), m_credencelaw15_GraphFilled_J10 N left_269 cliques_273 i_277 g_278 h_280 (m_credencelaw15_GraphFilled_L10 N p2_order n_266) k_298 = some r ∧ St w0 (col0 col) col_297 w_296 ∧ Own (Rep.int .i64) 3 15 col_297 w_296 a_270 cap_271 left_269 ∧ Own (Rep.row 3 (Rep.int .i64)) 22 17 col_297 w_296 a_274 cap_275 cliques_273 ∧ Sl (Rep.int .i64) col_297 w_296 a2 cap2 p2_order ∧ GO 85 86 1 col_297 w_296 o_14 g_278 ∧ GO 85 86 5 col_297 w_296 o_62 h_280 ∧ f 10 = (.slice a_270 left_269.length cap_271) ∧ f 12 = (.slice a_274 cliques_273.length cap_275) ∧ f 13 = (.int .i64 i_277) ∧ f 14 = (.int .i64 k_298) ∧ f 2 = (.slice a2 p2_order.length cap2) ∧ f 8 = (.pointer (some ⟨o_14.g, 0, none⟩)) ∧ f 9 = (.pointer (some ⟨o_62.g, 0, none⟩)) ∧ f 1000000 = (enc [])) ?_ ?_
                    · intro f w_296 hJ
                      obtain ⟨col_297, k_298, hm, hst, h_272, h_276, h2, h_279, h_281, hs10, hs12, hs13, hs14, hs2, hs8, hs9, hs1000000⟩ := hJ
                      rw [m_credencelaw15_GraphFilled_J10.eq_1] at hm
                      refine .ld (d := 10) (v := (.slice a_270 left_269.length cap_271)) hs10 ?_
                      refine .ld (d := 12) (v := (.slice a_274 cliques_273.length cap_275)) hs12 ?_
                      refine .ld (d := 13) (v := (.int .i64 i_277)) hs13 ?_
                      refine .ld (d := 14) (v := (.int .i64 k_298)) hs14 ?_
                      refine .ld (d := 2) (v := (.slice a2 p2_order.length cap2)) hs2 ?_
                      refine .ld (d := 8) (v := (.pointer (some ⟨o_14.g, 0, none⟩))) hs8 ?_
                      refine .ld (d := 9) (v := (.pointer (some ⟨o_62.g, 0, none⟩))) hs9 ?_
                      refine .ld (d := 1000000) (v := (enc [])) hs1000000 ?_
                      clear hs10 hs12 hs13 hs14 hs2 hs8 hs9 hs1000000
                      refine wseq ?_
                      refine wregion ?_
                      refine lv (v := (.slice a_270 left_269.length cap_271)) rfl rfl (r_move rfl) ?_
                      refine lv (v := (.int .i64 k_298)) rfl rfl (r_move rfl) ?_
                      obtain ⟨e_299, hj_300, hm⟩ := bind_some hm
                      refine lv (v := (sptr a_270 (Int.toNat k_298 * 1))) rfl rfl (r_idx Try.underlying22 Try.sizeOf3 rfl rfl (at?_some hj_300).1 (at?_some hj_300).2.1 (h_272.addr hj_300)) ?_
                      refine lv (v := (.int .i64 e_299)) rfl rfl (r_ld Try.isAgg3 rfl (h_272.atInt hj_300)) ?_
                      refine lv (v := (.int .i64 e_299)) rfl rfl (r_assign rfl) ?_
                      refine lnil ?_
                      refine wseq ?_
                      refine wregion ?_
                      refine lv (v := (.pointer (some ⟨o_14.g, 0, none⟩))) rfl rfl (r_move rfl) ?_
                      refine lv (v := (.int .i64 e_299)) rfl rfl (r_move rfl) ?_
                      obtain ⟨r_301, hr_302, hm⟩ := bind_some hm
                      refine lc rfl rfl (r_call2 Try.call16 rfl rfl) (c_graph_Graph_Fill col_297 _ 1 (by decide) o_14 g_278 e_299 h_279 r_301 hr_302) ?_
                      rintro _ w_303 ⟨rfl, hg_304⟩
                      refine ⟨_, rfl, ?_⟩
                      replace hg_304 : Grow col_297 w_296 col_297 w_303 := .of_below hg_304
                      replace h_272 := h_272.gr hg_304
                      replace h_276 := h_276.gr hg_304
                      replace h2 := h2.gr hg_304
                      replace h_279 := h_279.gr hg_304
                      replace h_281 := h_281.gr hg_304
                      replace hst := hst.grow hg_304
                      refine lv (v := (.int .i64 r_301)) rfl rfl (r_assign rfl) ?_
                      refine lnil ?_
                      refine wseq ?_
                      refine wregion ?_
                      refine lv (v := (.pointer (some ⟨o_14.g, 0, none⟩))) rfl rfl (r_move rfl) ?_
                      refine lv (v := (.int .i64 e_299)) rfl rfl (r_move rfl) ?_
                      obtain ⟨r_305, hr_306, hm⟩ := bind_some hm
                      refine lc rfl rfl (r_call2 Try.call17 rfl rfl) (c_graph_Graph_Remove N 18 19 col_297 _ 1 rfl o_14 g_278 e_299 h_279 r_305 hr_306) ?_
                      rintro _ w_314 ⟨col_316, ra_307, rc_308, ra_310, rc_311, rfl, hg_315, rh_309, rh_312, oh_313⟩
                      refine ⟨_, rfl, ?_⟩
                      replace h_272 := h_272.kpp hg_315 rfl rfl
                      replace h_276 := h_276.kpp hg_315 rfl rfl
                      replace h2 := h2.kpp hg_315 rfl
                      replace h_281 := h_281.kpp hg_315 rfl rfl
                      replace hst := hst.kpp hg_315 rfl rfl
                      clear h_279
                      refine lv (v := (.tuple #[(.slice ra_307 r_305.1.length rc_308), (.slice ra_310 r_305.2.1.length rc_311)])) rfl rfl (r_move rfl) ?_
                      refine lv (v := (.slice ra_307 r_305.1.length rc_308)) rfl rfl (r_extract rfl rfl) ?_
                      refine lv (v := (.slice ra_310 r_305.2.1.length rc_311)) rfl rfl (r_extract rfl rfl) ?_
                      refine lv (v := (.slice ra_307 r_305.1.length rc_308)) rfl rfl (r_assign rfl) ?_
                      refine lv (v := (.slice ra_310 r_305.2.1.length rc_311)) rfl rfl (r_assign rfl) ?_
                      refine lnil ?_
                      refine wseq ?_
                      refine wseq ?_
                      refine Wp.cut (fun f w_327 => ∃ (col_328 : Col) (v_329 : Bool), m_credencelaw15_GraphFilled_J11 N left_269 cliques_273 i_277 h_280 (m_credencelaw15_GraphFilled_L10 N p2_order n_266) k_298 r_305 v_329 = some r ∧ St w0 (col0 col) col_328 w_327 ∧ Own (Rep.int .i64) 3 15 col_328 w_327 a_270 cap_271 left_269 ∧ Own (Rep.row 3 (Rep.int .i64)) 22 17 col_328 w_327 a_274 cap_275 cliques_273 ∧ Own (Rep.int .i64) 3 18 col_328 w_327 ra_307 rc_308 r_305.1 ∧ Own (Rep.pair (Rep.int .i64) (Rep.int .i64)) 47 19 col_328 w_327 ra_310 rc_311 r_305.2.1 ∧ Sl (Rep.int .i64) col_328 w_327 a2 cap2 p2_order ∧ GO 85 86 1 col_328 w_327 o_14 r_305.2.2 ∧ GO 85 86 5 col_328 w_327 o_62 h_280 ∧ f 10 = (.slice a_270 left_269.length cap_271) ∧ f 12 = (.slice a_274 cliques_273.length cap_275) ∧ f 13 = (.int .i64 i_277) ∧ f 14 = (.int .i64 k_298) ∧ f 17 = (.slice ra_307 r_305.1.length rc_308) ∧ f 18 = (.slice ra_310 r_305.2.1.length rc_311) ∧ f 2 = (.slice a2 p2_order.length cap2) ∧ f 8 = (.pointer (some ⟨o_14.g, 0, none⟩)) ∧ f 9 = (.pointer (some ⟨o_62.g, 0, none⟩)) ∧ f 99 = (.bool v_329) ∧ f 1000000 = (enc [])) ?_ ?_
                      · intro f w_327 hJ
                        obtain ⟨col_328, v_329, hm, hst, h_272, h_276, rh_309, rh_312, h2, oh_313, h_281, hs10, hs12, hs13, hs14, hs17, hs18, hs2, hs8, hs9, hs99, hs1000000⟩ := hJ
                        rw [m_credencelaw15_GraphFilled_J11.eq_1] at hm
                        refine .ld (d := 10) (v := (.slice a_270 left_269.length cap_271)) hs10 ?_
                        refine .ld (d := 12) (v := (.slice a_274 cliques_273.length cap_275)) hs12 ?_
                        refine .ld (d := 13) (v := (.int .i64 i_277)) hs13 ?_
                        refine .ld (d := 14) (v := (.int .i64 k_298)) hs14 ?_
                        refine .ld (d := 17) (v := (.slice ra_307 r_305.1.length rc_308)) hs17 ?_
                        refine .ld (d := 18) (v := (.slice ra_310 r_305.2.1.length rc_311)) hs18 ?_
                        refine .ld (d := 2) (v := (.slice a2 p2_order.length cap2)) hs2 ?_
                        refine .ld (d := 8) (v := (.pointer (some ⟨o_14.g, 0, none⟩))) hs8 ?_
                        refine .ld (d := 9) (v := (.pointer (some ⟨o_62.g, 0, none⟩))) hs9 ?_
                        refine .ld (d := 99) (v := (.bool v_329)) hs99 ?_
                        refine .ld (d := 1000000) (v := (enc [])) hs1000000 ?_
                        clear hs10 hs12 hs13 hs14 hs17 hs18 hs2 hs8 hs9 hs99 hs1000000
                        refine wcond (v_329) rfl (fun hb => ?_) (fun hb => ?_)
                        · rw [if_pos hb] at hm
                          clear hb
                          refine wseq ?_
                          refine wregion ?_
                          refine lv (v := (.bool false)) rfl rfl (r_assign rfl) ?_
                          refine lnil ?_
                          refine wret ?_
                          cases hm
                          exact ⟨rfl, rfl, hst.below⟩
                        · rw [if_neg (by rw [hb]; decide)] at hm
                          clear hb
                          refine wskip ?_
                          refine wseq ?_
                          refine wseq ?_
                          refine wregion ?_
                          refine lv (v := (.int .i64 0)) rfl rfl (r_assign rfl) ?_
                          refine lnil ?_
                          refine wblock ?_
                          refine wloop (fun n f w_331 => ∃ (col_332 : Col) (j_333 : Int) (h_334 : List (List Bool)) (n_330 : Nat), n_330 = n ∧ m_credencelaw15_GraphFilled_L11 N left_269 cliques_273 i_277 (m_credencelaw15_GraphFilled_L10 N p2_order n_266) k_298 r_305 n_330 j_333 h_334 = some r ∧ St w0 (col0 col) col_332 w_331 ∧ Own (Rep.int .i64) 3 15 col_332 w_331 a_270 cap_271 left_269 ∧ Own (Rep.row 3 (Rep.int .i64)) 22 17 col_332 w_331 a_274 cap_275 cliques_273 ∧ Own (Rep.int .i64) 3 18 col_332 w_331 ra_307 rc_308 r_305.1 ∧ Own (Rep.pair (Rep.int .i64) (Rep.int .i64)) 47 19 col_332 w_331 ra_310 rc_311 r_305.2.1 ∧ Sl (Rep.int .i64) col_332 w_331 a2 cap2 p2_order ∧ GO 85 86 1 col_332 w_331 o_14 r_305.2.2 ∧ GO 85 86 5 col_332 w_331 o_62 h_334 ∧ f 10 = (.slice a_270 left_269.length cap_271) ∧ f 12 = (.slice a_274 cliques_273.length cap_275) ∧ f 13 = (.int .i64 i_277) ∧ f 14 = (.int .i64 k_298) ∧ f 17 = (.slice ra_307 r_305.1.length rc_308) ∧ f 18 = (.slice ra_310 r_305.2.1.length rc_311) ∧ f 19 = (.int .i64 j_333) ∧ f 2 = (.slice a2 p2_order.length cap2) ∧ f 8 = (.pointer (some ⟨o_14.g, 0, none⟩)) ∧ f 9 = (.pointer (some ⟨o_62.g, 0, none⟩)) ∧ f 1000000 = (enc [])) N ⟨col_328, 0, h_280, N, rfl, hm, hst, h_272, h_276, rh_309, rh_312, h2, oh_313, h_281, rfl, rfl, rfl, rfl, rfl, rfl, rfl, rfl, rfl, rfl, rfl⟩ ?_
                          clear hm; intro n f w_331 hI
                          obtain ⟨col_332, j_333, h_334, n_330, hn, hm, hst, h_272, h_276, rh_309, rh_312, h2, oh_313, h_335, hs10, hs12, hs13, hs14, hs17, hs18, hs19, hs2, hs8, hs9, hs1000000⟩ := hI
                          subst hn
                          refine .ld (d := 10) (v := (.slice a_270 left_269.length cap_271)) hs10 ?_
                          refine .ld (d := 12) (v := (.slice a_274 cliques_273.length cap_275)) hs12 ?_
                          refine .ld (d := 13) (v := (.int .i64 i_277)) hs13 ?_
                          refine .ld (d := 14) (v := (.int .i64 k_298)) hs14 ?_
                          refine .ld (d := 17) (v := (.slice ra_307 r_305.1.length rc_308)) hs17 ?_
                          refine .ld (d := 18) (v := (.slice ra_310 r_305.2.1.length rc_311)) hs18 ?_
                          refine .ld (d := 19) (v := (.int .i64 j_333)) hs19 ?_
                          refine .ld (d := 2) (v := (.slice a2 p2_order.length cap2)) hs2 ?_
                          refine .ld (d := 8) (v := (.pointer (some ⟨o_14.g, 0, none⟩))) hs8 ?_
                          refine .ld (d := 9) (v := (.pointer (some ⟨o_62.g, 0, none⟩))) hs9 ?_
                          refine .ld (d := 1000000) (v := (enc [])) hs1000000 ?_
                          clear hs10 hs12 hs13 hs14 hs17 hs18 hs19 hs2 hs8 hs9 hs1000000
                          cases n_330 with
                          | zero => rw [m_credencelaw15_GraphFilled_L11.eq_1] at hm; cases hm
                          | succ n_330 =>
                            rw [m_credencelaw15_GraphFilled_L11.eq_2] at hm
                            refine wseq ?_
                            refine wseq ?_
                            refine wregion ?_
                            refine lv (v := (.int .i64 j_333)) rfl rfl (r_move rfl) ?_
                            refine lv (v := (.slice ra_310 r_305.2.1.length rc_311)) rfl rfl (r_move rfl) ?_
                            refine lv (v := (.int .i64 (r_305.2.1.length : Int))) rfl rfl (r_len Try.underlying29 rfl) ?_
                            refine lv (v := (.bool (decide (j_333 < (r_305.2.1.length : Int))))) rfl rfl (r_lss j_333 (r_305.2.1.length : Int) rfl rfl) ?_
                            refine lnil ?_
                            refine wcond (decide (j_333 < (r_305.2.1.length : Int))) rfl (fun hb => ?_) (fun hb => ?_)
                            · rw [if_pos hb] at hm
                              clear hb
                              refine wskip ?_
                              refine wseq ?_
                              refine wblock ?_
                              refine wseq ?_
                              refine wmix (col := col_332) [(0, 1), (1, 1), (2, 1), (3, 1), (4, 1), (5, 0), (6, 1), (7, 1), (8, 1), (9, 1), (10, 0), (11, 2), (12, 1)] (by kernel_rfl) (by kernel_rfl) ?_
                              refine xu (v := (.pointer (some ⟨o_62.g, 0, none⟩))) rfl rfl (fun _ => r_move rfl) ?_
                              refine xu (v := (.slice ra_310 r_305.2.1.length rc_311)) rfl rfl (fun _ => r_move rfl) ?_
                              refine xu (v := (.int .i64 j_333)) rfl rfl (fun _ => r_move rfl) ?_
                              obtain ⟨e_336, hj_337, hm⟩ := bind_some hm
                              refine xu (v := (sptr ra_310 (Int.toNat j_333 * 2))) rfl rfl (fun _ => r_idx Try.underlying29 Try.sizeOf47 rfl rfl (at?_some hj_337).1 (at?_some hj_337).2.1 (rh_312.addr hj_337)) ?_
                              refine xu (v := (.pointer ((ra_310.map (·.add (Int.toNat j_333 * 2))).map (·.add 0)))) rfl rfl (fun _ => r_fieldAddr (sz := 1) (off := 0) Try.underlying47 rfl Try.sizeOf3 (by decide) rfl rfl (sptr_addr (rh_312.addr hj_337))) ?_
                              obtain ⟨_, hr_338, hA_339⟩ := rh_312.atN hj_337
                              obtain ⟨_, _, rfl, hp_340, hp_341⟩ := hr_338.parts
                              obtain rfl := hp_340.int
                              obtain rfl := hp_341.int
                              refine xv (v := (.int .i64 e_336.1)) rfl rfl (fun _ hC => r_ld Try.isAgg3 rfl (((hA_339).nth (q := 0) (v := (.int .i64 e_336.1)) rfl).gr (Grow.of_below (col := col_332) hC.below))) ?_
                              refine xu (v := (.slice ra_310 r_305.2.1.length rc_311)) rfl rfl (fun _ => r_move rfl) ?_
                              refine xu (v := (.int .i64 j_333)) rfl rfl (fun _ => r_move rfl) ?_
                              refine xu (v := (sptr ra_310 (Int.toNat j_333 * 2))) rfl rfl (fun _ => r_idx Try.underlying29 Try.sizeOf47 rfl rfl (at?_some hj_337).1 (at?_some hj_337).2.1 (rh_312.addr hj_337)) ?_
                              refine xu (v := (.pointer ((ra_310.map (·.add (Int.toNat j_333 * 2))).map (·.add 1)))) rfl rfl (fun _ => r_fieldAddr (sz := 1) (off := 1) Try.underlying47 rfl Try.sizeOf3 (by decide) rfl rfl (sptr_addr (rh_312.addr hj_337))) ?_
                              obtain ⟨_, hr_342, hA_343⟩ := rh_312.atN hj_337
                              obtain ⟨_, _, rfl, hp_344, hp_345⟩ := hr_342.parts
                              obtain rfl := hp_344.int
                              obtain rfl := hp_345.int
                              refine xv (v := (.int .i64 e_336.2)) rfl rfl (fun _ hC => r_ld Try.isAgg3 rfl (((hA_343).nth (q := 1) (v := (.int .i64 e_336.2)) rfl).gr (Grow.of_below (col := col_332) hC.below))) ?_
                              refine xe rfl rfl ?_
                              intro w_346 hC0
                              have hC : Grow col_332 w_331 col_332 w_346 := .of_below hC0.below
                              replace h_272 := h_272.gr hC
                              replace h_276 := h_276.gr hC
                              replace rh_309 := rh_309.gr hC
                              replace rh_312 := rh_312.gr hC
                              replace h2 := h2.gr hC
                              replace oh_313 := oh_313.gr hC
                              replace h_335 := h_335.gr hC
                              replace hst := hst.grow hC
                              obtain ⟨r_347, hr_348, hm⟩ := bind_some hm
                              refine lc rfl rfl (r_call3 Try.call23 rfl rfl rfl) (c_graph_Graph_Join col_332 _ 5 rfl o_62 h_334 e_336.1 e_336.2 h_335 r_347 hr_348) ?_
                              rintro _ w_350 ⟨col_352, rfl, hg_351, oh_349⟩
                              refine ⟨_, rfl, ?_⟩
                              replace h_272 := h_272.kpp hg_351 rfl rfl
                              replace h_276 := h_276.kpp hg_351 rfl rfl
                              replace rh_309 := rh_309.kpp hg_351 rfl rfl
                              replace rh_312 := rh_312.kpp hg_351 rfl rfl
                              replace h2 := h2.kpp hg_351 rfl
                              replace oh_313 := oh_313.kpp hg_351 rfl rfl
                              replace hst := hst.kpp hg_351 rfl rfl
                              clear h_335
                              refine lnil ⟨fun w' => Grow col_352 w_350 col_352 w', Grow.refl _ _, fun h => absurd h (by decide), ?_⟩
                              refine xu (v := (.bool r_347.1)) rfl rfl (fun _ => r_assign rfl) ?_
                              refine xnil ?_
                              intro w_353 hC
                              replace hC : Grow col_352 w_350 col_352 w_353 := .of_below hC.below
                              replace h_272 := h_272.gr hC
                              replace h_276 := h_276.gr hC
                              replace rh_309 := rh_309.gr hC
                              replace rh_312 := rh_312.gr hC
                              replace h2 := h2.gr hC
                              replace oh_313 := oh_313.gr hC
                              replace oh_349 := oh_349.gr hC
                              replace hst := hst.grow hC
                              refine wseq ?_
                              refine wregion ?_
                              refine lv (v := (.bool r_347.1)) rfl rfl (r_move rfl) ?_
                              refine lv (v := (.bool (!r_347.1))) rfl rfl (r_not r_347.1 rfl) ?_
                              refine lnil ?_
                              refine wcond (!r_347.1) rfl (fun hb => ?_) (fun hb => ?_)
                              · rw [if_pos hb] at hm
                                clear hb
                                refine wseq ?_
                                refine wregion ?_
                                refine lv (v := (.bool false)) rfl rfl (r_assign rfl) ?_
                                refine lnil ?_
                                refine wret ?_
                                cases hm
                                exact ⟨rfl, rfl, hst.below⟩
                              · rw [if_neg (by rw [hb]; decide)] at hm
                                clear hb
                                refine wskip ?_
                                refine wregion ?_
                                refine lv (v := (.int .i64 j_333)) rfl rfl (r_move rfl) ?_
                                refine lv (v := (.int .i64 (IntKind.i64.wrap (j_333 + 1)))) rfl rfl (r_add j_333 1 rfl rfl) ?_
                                refine lv (v := (.int .i64 (IntKind.i64.wrap (j_333 + 1)))) rfl rfl (r_assign rfl) ?_
                                refine lnil ?_
                                exact ⟨n_330, by omega, ⟨col_352, (IntKind.i64.wrap (j_333 + 1)), r_347.2, n_330, rfl, hm, hst, h_272, h_276, rh_309, rh_312, h2, oh_313, oh_349, rfl, rfl, rfl, rfl, rfl, rfl, rfl, rfl, rfl, rfl, rfl⟩⟩
                            · rw [if_neg (by rw [hb]; decide)] at hm
                              clear hb
                              refine wexit (inB_hit ?_)
                              refine wseq ?_
                              refine wregion ?_
                              refine lv (v := (.slice a_274 cliques_273.length cap_275)) rfl rfl (r_move rfl) ?_
                              refine lv (v := (.slice ra_307 r_305.1.length rc_308)) rfl rfl (r_move rfl) ?_
                              refine l_lit (col := col_332) (r := (Rep.row 3 (Rep.int .i64))) (xs := [r_305.1]) [(.slice ra_307 r_305.1.length rc_308)] 18 rfl Try.underlying33 el22_5 rfl rfl rfl rfl rfl rfl (by intro v hv; simp only [List.mem_cons, List.not_mem_nil, or_false] at hv; subst hv; rfl) (RowsH.cons1 (cs := [(.slice ra_307 r_305.1.length rc_308)]) rh_309.has Rows.nil0) ?_
                              intro a_354 w_355 col_356 hg_357 h_358
                              replace h_272 := h_272.gr hg_357
                              replace h2 := h2.gr hg_357
                              replace oh_313 := oh_313.gr hg_357
                              replace h_335 := h_335.gr hg_357
                              replace h_276 := h_276.gr hg_357
                              replace rh_309 := rh_309.gr hg_357
                              replace hst := hst.grow hg_357
                              obtain ⟨hb_359, hm⟩ := chk_some hm
                              refine l_appendM (col := col_356) (w := w_355) (r := (Rep.row 3 (Rep.int .i64))) (c := 17) (c2 := 18) (xs := cliques_273) (ys := [r_305.1]) h_276 (h_358.srcC (by decide)) rfl Try.underlying33 el22_5 rfl rfl rfl hb_359.1 hb_359.2 (by decide) ?_
                              intro a_360 cap_361 w_362 col_363 hk_364 h_365
                              replace h_272 := h_272.kpp hk_364 rfl rfl
                              replace h2 := h2.kpp hk_364 rfl
                              replace oh_313 := oh_313.kpp hk_364 rfl rfl
                              replace h_335 := h_335.kpp hk_364 rfl rfl
                              clear h_358
                              replace hst := hst.kpp hk_364 rfl rfl
                              clear h_276
                              refine lv (v := (.slice a_360 ((cliques_273 ++ [r_305.1]).length) cap_361)) rfl rfl (r_assign rfl) ?_
                              refine lnil ?_
                              refine wseq ?_
                              refine wregion ?_
                              refine lv (v := (.slice none (([] : List Int).length) 0)) rfl rfl (r_assign rfl) ?_
                              refine lnil ?_
                              refine wseq ?_
                              refine wregion ?_
                              refine lv (v := (.slice none (([] : List Int).length) 0)) rfl rfl (r_move rfl) ?_
                              refine lv (v := (.slice a_270 left_269.length cap_271)) rfl rfl (r_move rfl) ?_
                              refine lv (v := (.int .i64 k_298)) rfl rfl (r_move rfl) ?_
                              obtain ⟨hb_366, hm⟩ := chk_some hm
                              refine lv (v := .slice a_270 (Int.toNat k_298) cap_271) rfl rfl (r_sliceH Try.underlying22 Try.sizeOf3 rfl rfl hb_366.1 (by have := h_272.lecap; have := hb_366.2; omega)) ?_
                              refine .ld (d := 127) (v := (.slice a_270 ((left_269.take (Int.toNat k_298)).length) cap_271)) (congrArg (fun n => Value.slice a_270 n cap_271) (List.length_take_of_le (show (Int.toNat k_298) ≤ left_269.length by have := hb_366.2; omega)).symm) ?_
                              obtain ⟨hb_367, hm⟩ := chk_some hm
                              refine l_appendM (col := col_363) (w := w_362) (r := (Rep.int .i64)) (c := 21) (c2 := 21) (xs := ([] : List Int)) (ys := left_269.take (Int.toNat k_298)) Own.nil ((h_272.take (Int.toNat k_298)).srcN (NB.int (k := .i64))) rfl Try.underlying22 el3_5 rfl rfl rfl hb_367.1 hb_367.2 (by decide) ?_
                              intro a_368 cap_369 w_370 col_371 hk_372 h_373
                              replace h_272 := h_272.kpp hk_372 rfl rfl
                              replace h2 := h2.kpp hk_372 rfl
                              replace oh_313 := oh_313.kpp hk_372 rfl rfl
                              replace h_335 := h_335.kpp hk_372 rfl rfl
                              replace h_365 := h_365.kpp hk_372 rfl rfl
                              replace hst := hst.kpp hk_372 rfl rfl
                              refine lv (v := (.slice a_368 ((([] : List Int) ++ (left_269.take (Int.toNat k_298))).length) cap_369)) rfl rfl (r_assign rfl) ?_
                              refine lnil ?_
                              refine wregion ?_
                              refine lv (v := (.slice a_368 ((([] : List Int) ++ (left_269.take (Int.toNat k_298))).length) cap_369)) rfl rfl (r_move rfl) ?_
                              refine lv (v := (.slice a_270 left_269.length cap_271)) rfl rfl (r_move rfl) ?_
                              refine lv (v := (.int .i64 k_298)) rfl rfl (r_move rfl) ?_
                              refine lv (v := (.int .i64 (IntKind.i64.wrap (k_298 + 1)))) rfl rfl (r_add k_298 1 rfl rfl) ?_
                              obtain ⟨hb_374, hm⟩ := chk_some hm
                              replace h2 := h2.froz 15
                              replace oh_313 := oh_313.froz 15 (by decide)
                              replace h_335 := h_335.froz 15 (by decide)
                              replace h_365 := h_365.froz 15 (by decide)
                              replace h_373 := h_373.froz 15 (by decide)
                              replace h_272 := (h_272).toSlF (Froz.int .i64)
                              replace hst := hst.froz 15 (by decide) (by decide)
                              have h_377 := h_272.drop (sz := 1) rfl (Int.toNat (IntKind.i64.wrap (k_298 + 1)))
                              refine lv (v := .slice (if cap_271 = (Int.toNat (IntKind.i64.wrap (k_298 + 1))) then a_270 else a_270.map (·.add ((Int.toNat (IntKind.i64.wrap (k_298 + 1))) * 1))) (left_269.length - (Int.toNat (IntKind.i64.wrap (k_298 + 1)))) (cap_271 - (Int.toNat (IntKind.i64.wrap (k_298 + 1))))) rfl rfl (r_sliceL Try.underlying22 Try.sizeOf3 rfl rfl hb_374.1 hb_374.2) ?_
                              generalize (if cap_271 = (Int.toNat (IntKind.i64.wrap (k_298 + 1))) then a_270 else a_270.map (·.add ((Int.toNat (IntKind.i64.wrap (k_298 + 1))) * 1))) = a_375 at *
                              refine .ld (d := 133) (v := (.slice a_375 ((left_269.drop (Int.toNat (IntKind.i64.wrap (k_298 + 1)))).length) (cap_271 - (Int.toNat (IntKind.i64.wrap (k_298 + 1)))))) (congrArg (fun n => Value.slice a_375 n (cap_271 - (Int.toNat (IntKind.i64.wrap (k_298 + 1))))) (List.length_drop (i := (Int.toNat (IntKind.i64.wrap (k_298 + 1)))) (l := left_269)).symm) ?_
                              obtain ⟨hb_378, hm⟩ := chk_some hm
                              refine l_appendM (col := (frC 15 col_371)) (w := w_370) (r := (Rep.int .i64)) (c := 21) (c2 := 21) (xs := ([] : List Int) ++ (left_269.take (Int.toNat k_298))) (ys := left_269.drop (Int.toNat (IntKind.i64.wrap (k_298 + 1)))) h_373 h_377.srcC rfl Try.underlying22 el3_5 rfl rfl rfl hb_378.1 hb_378.2 (by decide) ?_
                              intro a_379 cap_380 w_381 col_382 hk_383 h_384
                              replace h2 := h2.kpp hk_383 rfl
                              replace oh_313 := oh_313.kpp hk_383 rfl rfl
                              replace h_335 := h_335.kpp hk_383 rfl rfl
                              replace h_365 := h_365.kpp hk_383 rfl rfl
                              replace h_377 := h_377.kpp hk_383 rfl
                              replace hst := hst.kpp hk_383 rfl rfl
                              clear h_373
                              refine lv (v := (.slice a_379 (((([] : List Int) ++ (left_269.take (Int.toNat k_298))) ++ (left_269.drop (Int.toNat (IntKind.i64.wrap (k_298 + 1))))).length) cap_380)) rfl rfl (r_assign rfl) ?_
                              refine lnil ?_
                              replace h2 := h2.recol 21 15 (by decide)
                              replace oh_313 := oh_313.recol 21 15 (by decide)
                              replace h_335 := h_335.recol 21 15 (by decide)
                              replace h_365 := h_365.recol 21 15 (by decide)
                              replace h_384 := h_384.recolSelf 15 (by decide)
                              replace hst := hst.recol 21 15 (by decide) (by decide)
                              exact ⟨(rcC 21 15 col_382), a_379, cap_380, ((([] : List Int) ++ (left_269.take (Int.toNat k_298))) ++ (left_269.drop (Int.toNat (IntKind.i64.wrap (k_298 + 1))))), a_360, cap_361, (cliques_273 ++ [r_305.1]), r_305.2.2, h_334, hm, hst, h_384, h_365, h2, oh_313, h_335, rfl, rfl, rfl, rfl, rfl, rfl, rfl⟩
                      · refine wregion ?_
                        refine lv (v := (.slice ra_310 r_305.2.1.length rc_311)) rfl rfl (r_move rfl) ?_
                        refine lv (v := (.int .i64 (r_305.2.1.length : Int))) rfl rfl (r_len Try.underlying29 rfl) ?_
                        refine lv (v := (.int .i64 r_301)) rfl rfl (r_move rfl) ?_
                        refine lv (v := (.bool (!decide ((r_305.2.1.length : Int) = r_301)))) rfl rfl (r_neq (r_305.2.1.length : Int) r_301 rfl rfl) ?_
                        refine lv (v := (.bool (!decide ((r_305.2.1.length : Int) = r_301)))) rfl rfl (r_move rfl) ?_
                        by_cases hg_385 : (!decide ((r_305.2.1.length : Int) = r_301)) = true
                        · rw [if_pos hg_385] at hm
                          refine lp (b := !decide ((r_305.2.1.length : Int) = r_301)) 88 rfl rfl rfl rfl (by rw [hg_385]; rfl) ?_
                          refine lp (b := !decide ((r_305.2.1.length : Int) = r_301)) 88 rfl rfl rfl rfl (by rw [hg_385]; rfl) ?_
                          refine lp (b := !decide ((r_305.2.1.length : Int) = r_301)) 88 rfl rfl rfl rfl (by rw [hg_385]; rfl) ?_
                          refine lv (v := (.bool true)) rfl rfl (r_pickT (congrArg Value.bool hg_385) rfl) ?_
                          refine lv (v := (.bool true)) rfl rfl (r_move rfl) ?_
                          refine lp (b := true) 93 rfl rfl rfl rfl rfl ?_
                          refine lp (b := true) 93 rfl rfl rfl rfl rfl ?_
                          refine lp (b := true) 93 rfl rfl rfl rfl rfl ?_
                          refine lp (b := true) 93 rfl rfl rfl rfl rfl ?_
                          refine lp (b := true) 93 rfl rfl rfl rfl rfl ?_
                          refine lv (v := (.bool true)) rfl rfl (r_pickT rfl rfl) ?_
                          refine lnil ?_
                          exact ⟨col_316, true, hm, hst, h_272, h_276, rh_309, rh_312, h2, oh_313, h_281, rfl, rfl, rfl, rfl, rfl, rfl, rfl, rfl, rfl, rfl, rfl⟩
                        · rw [if_neg hg_385] at hm
                          replace hg_385 := Bool.eq_false_iff.2 hg_385
                          refine lg (b := !decide ((r_305.2.1.length : Int) = r_301)) 88 rfl rfl rfl (by rw [hg_385]; rfl) ?_
                          refine lv (v := (.slice ra_307 r_305.1.length rc_308)) rfl rfl (r_move rfl) ?_
                          refine lg (b := !decide ((r_305.2.1.length : Int) = r_301)) 88 rfl rfl rfl (by rw [hg_385]; rfl) ?_
                          refine lv (v := (.int .i64 (r_305.1.length : Int))) rfl rfl (r_len Try.underlying22 rfl) ?_
                          refine lg (b := !decide ((r_305.2.1.length : Int) = r_301)) 88 rfl rfl rfl (by rw [hg_385]; rfl) ?_
                          refine lv (v := (.bool (decide ((r_305.1.length : Int) = 0)))) rfl rfl (r_eql (r_305.1.length : Int) 0 rfl rfl) ?_
                          refine lv (v := (.bool (decide ((r_305.1.length : Int) = 0)))) rfl rfl (r_pickF (congrArg Value.bool hg_385) rfl) ?_
                          refine lv (v := (.bool (decide ((r_305.1.length : Int) = 0)))) rfl rfl (r_move rfl) ?_
                          by_cases hg_386 : (decide ((r_305.1.length : Int) = 0)) = true
                          · rw [if_pos hg_386] at hm
                            refine lp (b := decide ((r_305.1.length : Int) = 0)) 93 rfl rfl rfl rfl (by rw [hg_386]; rfl) ?_
                            refine lp (b := decide ((r_305.1.length : Int) = 0)) 93 rfl rfl rfl rfl (by rw [hg_386]; rfl) ?_
                            refine lp (b := decide ((r_305.1.length : Int) = 0)) 93 rfl rfl rfl rfl (by rw [hg_386]; rfl) ?_
                            refine lp (b := decide ((r_305.1.length : Int) = 0)) 93 rfl rfl rfl rfl (by rw [hg_386]; rfl) ?_
                            refine lp (b := decide ((r_305.1.length : Int) = 0)) 93 rfl rfl rfl rfl (by rw [hg_386]; rfl) ?_
                            refine lv (v := (.bool true)) rfl rfl (r_pickT (congrArg Value.bool hg_386) rfl) ?_
                            refine lnil ?_
                            exact ⟨col_316, true, hm, hst, h_272, h_276, rh_309, rh_312, h2, oh_313, h_281, rfl, rfl, rfl, rfl, rfl, rfl, rfl, rfl, rfl, rfl, rfl⟩
                          · rw [if_neg hg_386] at hm
                            replace hg_386 := Bool.eq_false_iff.2 hg_386
                            refine lg (b := decide ((r_305.1.length : Int) = 0)) 93 rfl rfl rfl (by rw [hg_386]; rfl) ?_
                            refine lv (v := (.pointer (some ⟨o_14.g, 0, none⟩))) rfl rfl (r_move rfl) ?_
                            refine lg (b := decide ((r_305.1.length : Int) = 0)) 93 rfl rfl rfl (by rw [hg_386]; rfl) ?_
                            refine lv (v := (.int .i64 e_299)) rfl rfl (r_move rfl) ?_
                            refine lg (b := decide ((r_305.1.length : Int) = 0)) 93 rfl rfl rfl (by rw [hg_386]; rfl) ?_
                            obtain ⟨r_387, hr_388, hm⟩ := bind_some hm
                            refine lc rfl rfl (r_call2 Try.call22 rfl rfl) (c_graph_Graph_Near 22 col_316 _ 1 (by decide) o_14 r_305.2.2 e_299 oh_313 r_387 hr_388) ?_
                            rintro _ w_392 ⟨col_394, ra_389, rc_390, rfl, hg_393, rh_391⟩
                            refine ⟨_, rfl, ?_⟩
                            replace h_272 := h_272.gr hg_393
                            replace h_276 := h_276.gr hg_393
                            replace h2 := h2.gr hg_393
                            replace oh_313 := oh_313.gr hg_393
                            replace h_281 := h_281.gr hg_393
                            replace rh_309 := rh_309.gr hg_393
                            replace rh_312 := rh_312.gr hg_393
                            replace hst := hst.grow hg_393
                            refine lg (b := decide ((r_305.1.length : Int) = 0)) 93 rfl rfl rfl (by rw [hg_386]; rfl) ?_
                            refine lv (v := (.int .i64 (r_387.length : Int))) rfl rfl (r_len Try.underlying22 rfl) ?_
                            refine lg (b := decide ((r_305.1.length : Int) = 0)) 93 rfl rfl rfl (by rw [hg_386]; rfl) ?_
                            refine lv (v := (.bool (!decide ((r_387.length : Int) = 0)))) rfl rfl (r_neq (r_387.length : Int) 0 rfl rfl) ?_
                            refine lv (v := (.bool (!decide ((r_387.length : Int) = 0)))) rfl rfl (r_pickF (congrArg Value.bool hg_386) rfl) ?_
                            refine lnil ?_
                            exact ⟨col_394, (!decide ((r_387.length : Int) = 0)), hm, hst, h_272, h_276, rh_309, rh_312, h2, oh_313, h_281, rfl, rfl, rfl, rfl, rfl, rfl, rfl, rfl, rfl, rfl, rfl⟩
                    · refine wseq ?_
                      refine wregion ?_
                      refine lv (v := (.int .i64 i_277)) rfl rfl (r_move rfl) ?_
                      refine lv (v := (.slice a2 p2_order.length cap2)) rfl rfl (r_move rfl) ?_
                      refine lv (v := (.int .i64 (p2_order.length : Int))) rfl rfl (r_len Try.underlying22 rfl) ?_
                      refine lv (v := (.bool (decide (i_277 < (p2_order.length : Int))))) rfl rfl (r_lss i_277 (p2_order.length : Int) rfl rfl) ?_
                      refine lnil ?_
                      refine wcond (decide (i_277 < (p2_order.length : Int))) rfl (fun hb => ?_) (fun hb => ?_)
                      · rw [if_pos hb] at hm
                        clear hb
                        refine wregion ?_
                        refine lv (v := (.slice a2 p2_order.length cap2)) rfl rfl (r_move rfl) ?_
                        refine lv (v := (.int .i64 i_277)) rfl rfl (r_move rfl) ?_
                        obtain ⟨e_395, hj_396, hm⟩ := bind_some hm
                        refine lv (v := (sptr a2 (Int.toNat i_277 * 1))) rfl rfl (r_idx Try.underlying22 Try.sizeOf3 rfl rfl (at?_some hj_396).1 (at?_some hj_396).2.1 (h2.addr hj_396)) ?_
                        refine lv (v := (.int .i64 e_395)) rfl rfl (r_ld Try.isAgg3 rfl (h2.atInt hj_396)) ?_
                        refine lv (v := (.slice a_270 left_269.length cap_271)) rfl rfl (r_move rfl) ?_
                        refine lv (v := (.int .i64 (left_269.length : Int))) rfl rfl (r_len Try.underlying22 rfl) ?_
                        obtain ⟨r_397, hr_398, hm⟩ := bind_some hm
                        refine lc rfl rfl (r_call2 Try.call21 rfl rfl) (c_credencelaw15_pick col_268 _ e_395 (left_269.length : Int) r_397 hr_398) ?_
                        rintro _ w_399 ⟨rfl, hg_400⟩
                        refine ⟨_, rfl, ?_⟩
                        replace hg_400 : Grow col_268 w_267 col_268 w_399 := .of_below hg_400
                        replace h_272 := h_272.gr hg_400
                        replace h_276 := h_276.gr hg_400
                        replace h2 := h2.gr hg_400
                        replace h_279 := h_279.gr hg_400
                        replace h_281 := h_281.gr hg_400
                        replace hst := hst.grow hg_400
                        refine lv (v := (.int .i64 r_397)) rfl rfl (r_assign rfl) ?_
                        refine lnil ?_
                        exact ⟨col_268, r_397, hm, hst, h_272, h_276, h2, h_279, h_281, rfl, rfl, rfl, rfl, rfl, rfl, rfl, rfl⟩
                      · rw [if_neg (by rw [hb]; decide)] at hm
                        clear hb
                        refine wskip ?_
                        exact ⟨col_268, 0, hm, hst, h_272, h_276, h2, h_279, h_281, rfl, rfl, rfl, rfl, rfl, rfl, rfl, rfl⟩
                · rw [if_neg (by rw [hb]; decide)] at hm
                  clear hb
                  refine wexit (inB_hit ?_)
                  refine wseq ?_
                  refine wseq ?_
                  refine wregion ?_
                  refine lv (v := (.int .i64 0)) rfl rfl (r_assign rfl) ?_
                  refine lnil ?_
                  refine wblock ?_
                  refine wloop (fun n f w_402 => ∃ (col_403 : Col) (i_404 : Int) (n_401 : Nat), n_401 = n ∧ m_credencelaw15_GraphFilled_L12 N cliques_273 g_278 h_280 n_401 i_404 = some r ∧ St w0 (col0 col) col_403 w_402 ∧ Own (Rep.row 3 (Rep.int .i64)) 22 17 col_403 w_402 a_274 cap_275 cliques_273 ∧ GO 85 86 1 col_403 w_402 o_14 g_278 ∧ GO 85 86 5 col_403 w_402 o_62 h_280 ∧ f 12 = (.slice a_274 cliques_273.length cap_275) ∧ f 22 = (.int .i64 i_404) ∧ f 8 = (.pointer (some ⟨o_14.g, 0, none⟩)) ∧ f 9 = (.pointer (some ⟨o_62.g, 0, none⟩)) ∧ f 1000000 = (enc [])) N ⟨col_268, 0, N, rfl, hm, hst, h_276, h_279, h_281, rfl, rfl, rfl, rfl, rfl⟩ ?_
                  clear hm; intro n f w_402 hI
                  obtain ⟨col_403, i_404, n_401, hn, hm, hst, h_276, h_279, h_281, hs12, hs22, hs8, hs9, hs1000000⟩ := hI
                  subst hn
                  refine .ld (d := 12) (v := (.slice a_274 cliques_273.length cap_275)) hs12 ?_
                  refine .ld (d := 22) (v := (.int .i64 i_404)) hs22 ?_
                  refine .ld (d := 8) (v := (.pointer (some ⟨o_14.g, 0, none⟩))) hs8 ?_
                  refine .ld (d := 9) (v := (.pointer (some ⟨o_62.g, 0, none⟩))) hs9 ?_
                  refine .ld (d := 1000000) (v := (enc [])) hs1000000 ?_
                  clear hs12 hs22 hs8 hs9 hs1000000
                  cases n_401 with
                  | zero => rw [m_credencelaw15_GraphFilled_L12.eq_1] at hm; cases hm
                  | succ n_401 =>
                    rw [m_credencelaw15_GraphFilled_L12.eq_2] at hm
                    refine wseq ?_
                    refine wseq ?_
                    refine wregion ?_
                    refine lv (v := (.int .i64 i_404)) rfl rfl (r_move rfl) ?_
                    refine lv (v := (.slice a_274 cliques_273.length cap_275)) rfl rfl (r_move rfl) ?_
                    refine lv (v := (.int .i64 (cliques_273.length : Int))) rfl rfl (r_len Try.underlying33 rfl) ?_
                    refine lv (v := (.bool (decide (i_404 < (cliques_273.length : Int))))) rfl rfl (r_lss i_404 (cliques_273.length : Int) rfl rfl) ?_
                    refine lnil ?_
                    refine wcond (decide (i_404 < (cliques_273.length : Int))) rfl (fun hb => ?_) (fun hb => ?_)
                    · rw [if_pos hb] at hm
                      clear hb
                      refine wskip ?_
                      refine wseq ?_
                      refine wblock ?_
                      refine wseq ?_
                      refine wregion ?_
                      refine lv (v := (.int .i64 0)) rfl rfl (r_assign rfl) ?_
                      refine lnil ?_
                      refine wblock ?_
                      refine wloop (fun n f w_406 => ∃ (col_407 : Col) (a_408 : Int) (n_405 : Nat), n_405 = n ∧ m_credencelaw15_GraphFilled_L13 N cliques_273 h_280 i_404 (m_credencelaw15_GraphFilled_L12 N cliques_273 g_278 h_280 n_401) n_405 a_408 = some r ∧ St w0 (col0 col) col_407 w_406 ∧ Own (Rep.row 3 (Rep.int .i64)) 22 17 col_407 w_406 a_274 cap_275 cliques_273 ∧ GO 85 86 1 col_407 w_406 o_14 g_278 ∧ GO 85 86 5 col_407 w_406 o_62 h_280 ∧ f 12 = (.slice a_274 cliques_273.length cap_275) ∧ f 22 = (.int .i64 i_404) ∧ f 23 = (.int .i64 a_408) ∧ f 8 = (.pointer (some ⟨o_14.g, 0, none⟩)) ∧ f 9 = (.pointer (some ⟨o_62.g, 0, none⟩)) ∧ f 1000000 = (enc [])) N ⟨col_403, 0, N, rfl, hm, hst, h_276, h_279, h_281, rfl, rfl, rfl, rfl, rfl, rfl⟩ ?_
                      clear hm; intro n f w_406 hI
                      obtain ⟨col_407, a_408, n_405, hn, hm, hst, h_276, h_279, h_281, hs12, hs22, hs23, hs8, hs9, hs1000000⟩ := hI
                      subst hn
                      refine .ld (d := 12) (v := (.slice a_274 cliques_273.length cap_275)) hs12 ?_
                      refine .ld (d := 22) (v := (.int .i64 i_404)) hs22 ?_
                      refine .ld (d := 23) (v := (.int .i64 a_408)) hs23 ?_
                      refine .ld (d := 8) (v := (.pointer (some ⟨o_14.g, 0, none⟩))) hs8 ?_
                      refine .ld (d := 9) (v := (.pointer (some ⟨o_62.g, 0, none⟩))) hs9 ?_
                      refine .ld (d := 1000000) (v := (enc [])) hs1000000 ?_
                      clear hs12 hs22 hs23 hs8 hs9 hs1000000
                      cases n_405 with
                      | zero => rw [m_credencelaw15_GraphFilled_L13.eq_1] at hm; cases hm
                      | succ n_405 =>
                        rw [m_credencelaw15_GraphFilled_L13.eq_2] at hm
                        refine wseq ?_
                        refine wseq ?_
                        refine wregion ?_
                        refine lv (v := (.int .i64 a_408)) rfl rfl (r_move rfl) ?_
                        refine lv (v := (.slice a_274 cliques_273.length cap_275)) rfl rfl (r_move rfl) ?_
                        refine lv (v := (.int .i64 i_404)) rfl rfl (r_move rfl) ?_
                        obtain ⟨e_409, hj_410, hm⟩ := bind_some hm
                        refine lv (v := (sptr a_274 (Int.toNat i_404 * 1))) rfl rfl (r_idx Try.underlying33 Try.sizeOf22 rfl rfl (at?_some hj_410).1 (at?_some hj_410).2.1 (h_276.addr hj_410)) ?_
                        obtain ⟨_, hr_411, hA_412⟩ := h_276.atN hj_410
                        obtain ⟨a_413, cap_414, rfl, h_415⟩ := hr_411.row
                        refine lv (v := (.slice a_413 e_409.length cap_414)) rfl rfl (r_ld Try.isAgg22 rfl hA_412.one) ?_
                        refine lv (v := (.int .i64 (e_409.length : Int))) rfl rfl (r_len Try.underlying22 rfl) ?_
                        refine lv (v := (.bool (decide (a_408 < (e_409.length : Int))))) rfl rfl (r_lss a_408 (e_409.length : Int) rfl rfl) ?_
                        refine lnil ?_
                        refine wcond (decide (a_408 < (e_409.length : Int))) rfl (fun hb => ?_) (fun hb => ?_)
                        · rw [if_pos hb] at hm
                          clear hb
                          refine wskip ?_
                          refine wseq ?_
                          refine wblock ?_
                          refine wseq ?_
                          refine wregion ?_
                          refine lv (v := (.int .i64 0)) rfl rfl (r_assign rfl) ?_
                          refine lnil ?_
                          refine wblock ?_
                          refine wloop (fun n f w_417 => ∃ (col_418 : Col) (b_419 : Int) (n_416 : Nat), n_416 = n ∧ m_credencelaw15_GraphFilled_L14 N cliques_273 h_280 i_404 a_408 (m_credencelaw15_GraphFilled_L13 N cliques_273 h_280 i_404 (m_credencelaw15_GraphFilled_L12 N cliques_273 g_278 h_280 n_401) n_405) n_416 b_419 = some r ∧ St w0 (col0 col) col_418 w_417 ∧ Own (Rep.row 3 (Rep.int .i64)) 22 17 col_418 w_417 a_274 cap_275 cliques_273 ∧ GO 85 86 1 col_418 w_417 o_14 g_278 ∧ GO 85 86 5 col_418 w_417 o_62 h_280 ∧ f 12 = (.slice a_274 cliques_273.length cap_275) ∧ f 22 = (.int .i64 i_404) ∧ f 23 = (.int .i64 a_408) ∧ f 24 = (.int .i64 b_419) ∧ f 8 = (.pointer (some ⟨o_14.g, 0, none⟩)) ∧ f 9 = (.pointer (some ⟨o_62.g, 0, none⟩)) ∧ f 1000000 = (enc [])) N ⟨col_407, 0, N, rfl, hm, hst, h_276, h_279, h_281, rfl, rfl, rfl, rfl, rfl, rfl, rfl⟩ ?_
                          clear hm; intro n f w_417 hI
                          obtain ⟨col_418, b_419, n_416, hn, hm, hst, h_276, h_279, h_281, hs12, hs22, hs23, hs24, hs8, hs9, hs1000000⟩ := hI
                          subst hn
                          refine .ld (d := 12) (v := (.slice a_274 cliques_273.length cap_275)) hs12 ?_
                          refine .ld (d := 22) (v := (.int .i64 i_404)) hs22 ?_
                          refine .ld (d := 23) (v := (.int .i64 a_408)) hs23 ?_
                          refine .ld (d := 24) (v := (.int .i64 b_419)) hs24 ?_
                          refine .ld (d := 8) (v := (.pointer (some ⟨o_14.g, 0, none⟩))) hs8 ?_
                          refine .ld (d := 9) (v := (.pointer (some ⟨o_62.g, 0, none⟩))) hs9 ?_
                          refine .ld (d := 1000000) (v := (enc [])) hs1000000 ?_
                          clear hs12 hs22 hs23 hs24 hs8 hs9 hs1000000
                          cases n_416 with
                          | zero => rw [m_credencelaw15_GraphFilled_L14.eq_1] at hm; cases hm
                          | succ n_416 =>
                            rw [m_credencelaw15_GraphFilled_L14.eq_2] at hm
                            refine wseq ?_
                            refine wseq ?_
                            refine wregion ?_
                            refine lv (v := (.int .i64 b_419)) rfl rfl (r_move rfl) ?_
                            refine lv (v := (.int .i64 a_408)) rfl rfl (r_move rfl) ?_
                            refine lv (v := (.bool (decide (b_419 < a_408)))) rfl rfl (r_lss b_419 a_408 rfl rfl) ?_
                            refine lnil ?_
                            refine wcond (decide (b_419 < a_408)) rfl (fun hb => ?_) (fun hb => ?_)
                            · rw [if_pos hb] at hm
                              clear hb
                              refine wskip ?_
                              refine wseq ?_
                              refine wblock ?_
                              refine wseq ?_
                              refine wquiet (col := col_418) (by kernel_rfl) (by kernel_rfl) ?_
                              refine qv (v := (.pointer (some ⟨o_62.g, 0, none⟩))) rfl (fun _ hC => r_move rfl) ?_
                              refine qv (v := (.slice a_274 cliques_273.length cap_275)) rfl (fun _ hC => r_move rfl) ?_
                              refine qv (v := (.int .i64 i_404)) rfl (fun _ hC => r_move rfl) ?_
                              obtain ⟨e_420, hj_421, hm⟩ := bind_some hm
                              refine qv (v := (sptr a_274 (Int.toNat i_404 * 1))) rfl (fun _ hC => r_idx Try.underlying33 Try.sizeOf22 rfl rfl (at?_some hj_421).1 (at?_some hj_421).2.1 (h_276.addr hj_421)) ?_
                              obtain ⟨_, hr_422, hA_423⟩ := h_276.atN hj_421
                              obtain ⟨a_424, cap_425, rfl, h_426⟩ := hr_422.row
                              refine qv (v := (.slice a_424 e_420.length cap_425)) rfl (fun _ hC => r_ld Try.isAgg22 rfl (hA_423.one.gr (Grow.of_below (col := col_418) hC.below))) ?_
                              refine qv (v := (.int .i64 a_408)) rfl (fun _ hC => r_move rfl) ?_
                              obtain ⟨e_427, hj_428, hm⟩ := bind_some hm
                              refine qv (v := (sptr a_424 (Int.toNat a_408 * 1))) rfl (fun _ hC => r_idx Try.underlying22 Try.sizeOf3 rfl rfl (at?_some hj_428).1 (at?_some hj_428).2.1 (h_426.addr hj_428)) ?_
                              refine qv (v := (.int .i64 e_427)) rfl (fun _ hC => r_ld Try.isAgg3 rfl ((h_426.gr (Grow.of_below (col := col_418) hC.below)).atInt hj_428)) ?_
                              refine qv (v := (.slice a_274 cliques_273.length cap_275)) rfl (fun _ hC => r_move rfl) ?_
                              refine qv (v := (.int .i64 i_404)) rfl (fun _ hC => r_move rfl) ?_
                              refine qv (v := (sptr a_274 (Int.toNat i_404 * 1))) rfl (fun _ hC => r_idx Try.underlying33 Try.sizeOf22 rfl rfl (at?_some hj_421).1 (at?_some hj_421).2.1 (h_276.addr hj_421)) ?_
                              obtain ⟨_, hr_429, hA_430⟩ := h_276.atN hj_421
                              obtain ⟨a_431, cap_432, rfl, h_433⟩ := hr_429.row
                              refine qv (v := (.slice a_431 e_420.length cap_432)) rfl (fun _ hC => r_ld Try.isAgg22 rfl (hA_430.one.gr (Grow.of_below (col := col_418) hC.below))) ?_
                              refine qv (v := (.int .i64 b_419)) rfl (fun _ hC => r_move rfl) ?_
                              obtain ⟨e_434, hj_435, hm⟩ := bind_some hm
                              refine qv (v := (sptr a_431 (Int.toNat b_419 * 1))) rfl (fun _ hC => r_idx Try.underlying22 Try.sizeOf3 rfl rfl (at?_some hj_435).1 (at?_some hj_435).2.1 (h_433.addr hj_435)) ?_
                              refine qv (v := (.int .i64 e_434)) rfl (fun _ hC => r_ld Try.isAgg3 rfl ((h_433.gr (Grow.of_below (col := col_418) hC.below)).atInt hj_435)) ?_
                              obtain ⟨r_436, hr_437, hm⟩ := bind_some hm
                              refine qc (v := (.bool r_436)) rfl (fun _ hC => ⟨_, _, r_call3 Try.call24 rfl rfl rfl, (c_graph_Graph_Has col_418 _ 5 (by decide) o_62 h_280 e_427 e_434 (h_281.gr (Grow.of_below (col := col_418) hC.below)) r_436 hr_437).mono fun _ _ h => ⟨h.1, hC.trans (.of_below h.2)⟩⟩) ?_
                              refine qv (v := (.bool r_436)) rfl (fun _ hC => r_assign rfl) ?_
                              refine qnil ?_
                              intro w_438 hC
                              replace hC : Grow col_418 w_417 col_418 w_438 := .of_below hC.below
                              replace h_276 := h_276.gr hC
                              replace h_279 := h_279.gr hC
                              replace h_281 := h_281.gr hC
                              replace hst := hst.grow hC
                              refine wseq ?_
                              refine wregion ?_
                              refine lv (v := (.bool r_436)) rfl rfl (r_move rfl) ?_
                              refine lv (v := (.bool (!r_436))) rfl rfl (r_not r_436 rfl) ?_
                              refine lnil ?_
                              refine wcond (!r_436) rfl (fun hb => ?_) (fun hb => ?_)
                              · rw [if_pos hb] at hm
                                clear hb
                                refine wseq ?_
                                refine wregion ?_
                                refine lv (v := (.bool false)) rfl rfl (r_assign rfl) ?_
                                refine lnil ?_
                                refine wret ?_
                                cases hm
                                exact ⟨rfl, rfl, hst.below⟩
                              · rw [if_neg (by rw [hb]; decide)] at hm
                                clear hb
                                refine wskip ?_
                                refine wregion ?_
                                refine lv (v := (.int .i64 b_419)) rfl rfl (r_move rfl) ?_
                                refine lv (v := (.int .i64 (IntKind.i64.wrap (b_419 + 1)))) rfl rfl (r_add b_419 1 rfl rfl) ?_
                                refine lv (v := (.int .i64 (IntKind.i64.wrap (b_419 + 1)))) rfl rfl (r_assign rfl) ?_
                                refine lnil ?_
                                exact ⟨n_416, by omega, ⟨col_418, (IntKind.i64.wrap (b_419 + 1)), n_416, rfl, hm, hst, h_276, h_279, h_281, rfl, rfl, rfl, rfl, rfl, rfl, rfl⟩⟩
                            · rw [if_neg (by rw [hb]; decide)] at hm
                              clear hb
                              refine wexit (inB_hit ?_)
                              refine wregion ?_
                              refine lv (v := (.int .i64 a_408)) rfl rfl (r_move rfl) ?_
                              refine lv (v := (.int .i64 (IntKind.i64.wrap (a_408 + 1)))) rfl rfl (r_add a_408 1 rfl rfl) ?_
                              refine lv (v := (.int .i64 (IntKind.i64.wrap (a_408 + 1)))) rfl rfl (r_assign rfl) ?_
                              refine lnil ?_
                              exact ⟨n_405, by omega, ⟨col_418, (IntKind.i64.wrap (a_408 + 1)), n_405, rfl, hm, hst, h_276, h_279, h_281, rfl, rfl, rfl, rfl, rfl, rfl⟩⟩
                        · rw [if_neg (by rw [hb]; decide)] at hm
                          clear hb
                          refine wexit (inB_hit ?_)
                          refine wregion ?_
                          refine lv (v := (.int .i64 i_404)) rfl rfl (r_move rfl) ?_
                          refine lv (v := (.int .i64 (IntKind.i64.wrap (i_404 + 1)))) rfl rfl (r_add i_404 1 rfl rfl) ?_
                          refine lv (v := (.int .i64 (IntKind.i64.wrap (i_404 + 1)))) rfl rfl (r_assign rfl) ?_
                          refine lnil ?_
                          exact ⟨n_401, by omega, ⟨col_407, (IntKind.i64.wrap (i_404 + 1)), n_401, rfl, hm, hst, h_276, h_279, h_281, rfl, rfl, rfl, rfl, rfl⟩⟩
                    · rw [if_neg (by rw [hb]; decide)] at hm
                      clear hb
                      refine wexit (inB_hit ?_)
                      refine wseq ?_
                      refine wregion ?_
                      refine lv (v := (.pointer (some ⟨o_14.g, 0, none⟩))) rfl rfl (r_move rfl) ?_
                      obtain ⟨r_439, hr_440, hm⟩ := bind_some hm
                      refine lc rfl rfl (r_call1 Try.call25 rfl) (c_credencelaw15_listed N 23 col_403 _ 1 (by decide) o_14 g_278 h_279 r_439 hr_440) ?_
                      rintro _ w_444 ⟨col_446, ra_441, rc_442, rfl, hg_445, rh_443⟩
                      refine ⟨_, rfl, ?_⟩
                      replace h_281 := h_281.gr hg_445
                      replace h_279 := h_279.gr hg_445
                      replace hst := hst.grow hg_445
                      refine lv (v := (.tuple #[(.slice ra_441 r_439.1.length rc_442), (.bool r_439.2)])) rfl rfl (r_move rfl) ?_
                      refine lv (v := (.slice ra_441 r_439.1.length rc_442)) rfl rfl (r_extract rfl rfl) ?_
                      refine lv (v := (.bool r_439.2)) rfl rfl (r_extract rfl rfl) ?_
                      refine lv (v := (.slice ra_441 r_439.1.length rc_442)) rfl rfl (r_assign rfl) ?_
                      refine lv (v := (.bool r_439.2)) rfl rfl (r_assign rfl) ?_
                      refine lnil ?_
                      refine wseq ?_
                      refine Wp.cut (fun f w_453 => ∃ (col_454 : Col) (v_455 : Bool), m_credencelaw15_GraphFilled_J12 v_455 = some r ∧ St w0 (col0 col) col_454 w_453 ∧ f 6 = (.bool v_455) ∧ f 1000000 = (enc [])) ?_ ?_
                      · intro f w_453 hJ
                        obtain ⟨col_454, v_455, hm, hst, hs6, hs1000000⟩ := hJ
                        rw [m_credencelaw15_GraphFilled_J12.eq_1] at hm
                        refine .ld (d := 6) (v := (.bool v_455)) hs6 ?_
                        refine .ld (d := 1000000) (v := (enc [])) hs1000000 ?_
                        clear hs6 hs1000000
                        refine wret ?_
                        cases hm
                        exact ⟨rfl, rfl, hst.below⟩
                      · refine wregion ?_
                        refine lv (v := (.bool r_439.2)) rfl rfl (r_move rfl) ?_
                        refine lv (v := (.bool r_439.2)) rfl rfl (r_move rfl) ?_
                        by_cases hg_456 : r_439.2 = true
                        · rw [if_pos hg_456] at hm
                          refine lg (b := r_439.2) 179 rfl rfl rfl (by rw [hg_456]; rfl) ?_
                          refine lv (v := (.slice ra_441 r_439.1.length rc_442)) rfl rfl (r_move rfl) ?_
                          refine lg (b := r_439.2) 179 rfl rfl rfl (by rw [hg_456]; rfl) ?_
                          refine lv (v := (.int .i64 (r_439.1.length : Int))) rfl rfl (r_len Try.underlying29 rfl) ?_
                          refine lg (b := r_439.2) 179 rfl rfl rfl (by rw [hg_456]; rfl) ?_
                          refine lv (v := (.bool (decide ((r_439.1.length : Int) = 0)))) rfl rfl (r_eql (r_439.1.length : Int) 0 rfl rfl) ?_
                          refine lv (v := (.bool (decide ((r_439.1.length : Int) = 0)))) rfl rfl (r_pickT (congrArg Value.bool hg_456) rfl) ?_
                          refine lv (v := (.bool (decide ((r_439.1.length : Int) = 0)))) rfl rfl (r_move rfl) ?_
                          by_cases hg_457 : (decide ((r_439.1.length : Int) = 0)) = true
                          · rw [if_pos hg_457] at hm
                            refine lg (b := decide ((r_439.1.length : Int) = 0)) 184 rfl rfl rfl (by rw [hg_457]; rfl) ?_
                            refine lv (v := (.pointer (some ⟨o_62.g, 0, none⟩))) rfl rfl (r_move rfl) ?_
                            refine lg (b := decide ((r_439.1.length : Int) = 0)) 184 rfl rfl rfl (by rw [hg_457]; rfl) ?_
                            obtain ⟨r_458, hr_459, hm⟩ := bind_some hm
                            refine lc rfl rfl (r_call1 Try.call14 rfl) (c_graph_Graph_Chordal N col_446 _ 5 (by decide) o_62 h_280 h_281 r_458 hr_459) ?_
                            rintro _ w_460 ⟨rfl, hg_461⟩
                            refine ⟨_, rfl, ?_⟩
                            replace hg_461 : Grow col_446 w_444 col_446 w_460 := .of_below hg_461
                            replace h_281 := h_281.gr hg_461
                            replace hst := hst.grow hg_461
                            refine lv (v := (.bool r_458)) rfl rfl (r_pickT (congrArg Value.bool hg_457) rfl) ?_
                            refine lv (v := (.bool r_458)) rfl rfl (r_assign rfl) ?_
                            refine lnil ?_
                            exact ⟨col_446, r_458, hm, hst, rfl, rfl⟩
                          · rw [if_neg hg_457] at hm
                            replace hg_457 := Bool.eq_false_iff.2 hg_457
                            refine lp (b := decide ((r_439.1.length : Int) = 0)) 184 rfl rfl rfl rfl (by rw [hg_457]; rfl) ?_
                            refine lp (b := decide ((r_439.1.length : Int) = 0)) 184 rfl rfl rfl rfl (by rw [hg_457]; rfl) ?_
                            refine lv (v := (.bool false)) rfl rfl (r_pickF (congrArg Value.bool hg_457) rfl) ?_
                            refine lv (v := (.bool false)) rfl rfl (r_assign rfl) ?_
                            refine lnil ?_
                            exact ⟨col_446, false, hm, hst, rfl, rfl⟩
                        · rw [if_neg hg_456] at hm
                          replace hg_456 := Bool.eq_false_iff.2 hg_456
                          refine lp (b := r_439.2) 179 rfl rfl rfl rfl (by rw [hg_456]; rfl) ?_
                          refine lp (b := r_439.2) 179 rfl rfl rfl rfl (by rw [hg_456]; rfl) ?_
                          refine lp (b := r_439.2) 179 rfl rfl rfl rfl (by rw [hg_456]; rfl) ?_
                          refine lv (v := (.bool false)) rfl rfl (r_pickF (congrArg Value.bool hg_456) rfl) ?_
                          refine lv (v := (.bool false)) rfl rfl (r_move rfl) ?_
                          refine lp (b := false) 184 rfl rfl rfl rfl rfl ?_
                          refine lp (b := false) 184 rfl rfl rfl rfl rfl ?_
                          refine lv (v := (.bool false)) rfl rfl (r_pickF rfl rfl) ?_
                          refine lv (v := (.bool false)) rfl rfl (r_assign rfl) ?_
                          refine lnil ?_
                          exact ⟨col_446, false, hm, hst, rfl, rfl⟩
      · refine wregion ?_
        refine lv (v := (.bool r_1)) rfl rfl (r_move rfl) ?_
        refine lv (v := (.bool (!r_1))) rfl rfl (r_not r_1 rfl) ?_
        refine lv (v := (.bool (!r_1))) rfl rfl (r_move rfl) ?_
        by_cases hg_462 : (!r_1) = true
        · rw [if_pos hg_462] at hm
          refine lp (b := !r_1) 37 rfl rfl rfl rfl (by rw [hg_462]; rfl) ?_
          refine lp (b := !r_1) 37 rfl rfl rfl rfl (by rw [hg_462]; rfl) ?_
          refine lv (v := (.bool true)) rfl rfl (r_pickT (congrArg Value.bool hg_462) rfl) ?_
          refine lv (v := (.bool true)) rfl rfl (r_move rfl) ?_
          refine lp (b := true) 41 rfl rfl rfl rfl rfl ?_
          refine lp (b := true) 41 rfl rfl rfl rfl rfl ?_
          refine lv (v := (.bool true)) rfl rfl (r_pickT rfl rfl) ?_
          refine lnil ?_
          exact ⟨col_59, true, hm, hst, h2, hG_15, hG_63, rfl, rfl, rfl, rfl, rfl⟩
        · rw [if_neg hg_462] at hm
          replace hg_462 := Bool.eq_false_iff.2 hg_462
          refine lg (b := !r_1) 37 rfl rfl rfl (by rw [hg_462]; rfl) ?_
          refine lv (v := (.pointer (some ⟨o_14.g, 0, none⟩))) rfl rfl (r_move rfl) ?_
          refine lg (b := !r_1) 37 rfl rfl rfl (by rw [hg_462]; rfl) ?_
          refine lv (v := (.bool false)) rfl rfl (r_eqlP1 ⟨_, Try.underlying24⟩ rfl rfl) ?_
          refine lv (v := (.bool false)) rfl rfl (r_pickF (congrArg Value.bool hg_462) rfl) ?_
          refine lv (v := (.bool false)) rfl rfl (r_move rfl) ?_
          refine lg (b := false) 41 rfl rfl rfl rfl ?_
          refine lv (v := (.pointer (some ⟨o_62.g, 0, none⟩))) rfl rfl (r_move rfl) ?_
          refine lg (b := false) 41 rfl rfl rfl rfl ?_
          refine lv (v := (.bool false)) rfl rfl (r_eqlP1 ⟨_, Try.underlying24⟩ rfl rfl) ?_
          refine lv (v := (.bool false)) rfl rfl (r_pickF rfl rfl) ?_
          refine lnil ?_
          exact ⟨col_59, false, hm, hst, h2, hG_15, hG_63, rfl, rfl, rfl, rfl, rfl⟩



theorem wantL_nodup {t : List (List Bool)} : ∀ {l : List Int}, l.Pairwise (· < ·) → (wantL t l).Nodup
  | [], _ => by simp [wantL]
  | x :: l, h => by
    obtain ⟨h1, h2⟩ := List.pairwise_cons.1 h
    rw [wantL, List.nodup_append]
    refine ⟨?_, wantL_nodup h2, fun p hp q hq e => ?_⟩
    · rw [List.Nodup, List.pairwise_map]
      refine ((h2.filter _).imp fun h => ?_)
      intro e
      simp only [Prod.mk.injEq, true_and] at e
      omega
    · subst e
      obtain ⟨y, hy, rfl⟩ := List.mem_map.1 hp
      have := (wantL_mem h2).1 hq
      have := h1 x this.1; omega
theorem joinAll_snoc {n : Nat} {t : List (List Bool)} {l : List (Int × Int)} {p : Int × Int} : joinAll n t (l ++ [p]) = joinT n (joinAll n t l) p.1 p.2 := by
  unfold joinAll; rw [List.foldl_append]; rfl
theorem insS_nodup {a : Int} {l : List Int} (hl : l.Nodup) (ha : a ∉ l) : (insS a l).Nodup := by
  have hp : (insS a l).Perm (a :: l) := by
    unfold insS
    rw [List.append_assoc]
    refine (List.perm_append_comm_assoc _ _ _).trans ?_
    rw [List.take_append_drop]; exact .refl _
  exact hp.nodup_iff.2 (List.nodup_cons.2 ⟨ha, hl⟩)

/-- Of each point taken out (the last one first): its neighbours among those behind it have edges with each other. -/
def PA (h : List (List Bool)) : List Int → List Int → Prop
  | [], _ => True
  | x :: ds, later => (∀ y ∈ later, ∀ z ∈ later, y ≠ z → ge h x y = true → ge h x z = true → ge h y z = true) ∧ PA h ds (x :: later)
theorem PA.congr {h : List (List Bool)} : ∀ {ds l l' : List Int}, (∀ x, x ∈ l ↔ x ∈ l') → PA h ds l → PA h ds l'
  | [], _, _, _, _ => trivial
  | x :: ds, l, l', hl, ⟨h1, h2⟩ => ⟨fun y hy z hz => h1 y ((hl y).2 hy) z ((hl z).2 hz), PA.congr (fun y => by simp [hl y]) h2⟩
theorem PA.up {h h' : List (List Bool)} : ∀ {ds l : List Int}, (∀ x ∈ ds, ∀ y, ge h' x y = ge h x y) → (∀ x y, ge h x y = true → ge h' x y = true) → PA h ds l → PA h' ds l
  | [], _, _, _, _ => trivial
  | x :: ds, l, h1, h2, ⟨k1, k2⟩ => ⟨fun y hy z hz hyz e1 e2 => by
      rw [h1 x (by simp)] at e1 e2
      exact h2 _ _ (k1 y hy z hz hyz e1 e2), PA.up (fun x hx => h1 x (by simp [hx])) h2 k2⟩
theorem PA.peo {h : List (List Bool)} : ∀ {ds l : List Int}, PA h ds l → Peo h l → Peo h (ds.reverse ++ l)
  | [], l, _, h => h
  | x :: ds, l, ⟨h1, h2⟩, hp => by
    rw [List.reverse_cons, List.append_assoc]
    exact PA.peo (l := x :: l) h2 ⟨h1, hp⟩

/-- What stays true while points are taken out of g: h has all that was put in. -/
structure FI (n : Nat) (left : List Int) (cliques : List (List Int)) (g h : List (List Bool)) (done : List Int) : Prop where
  gg : Gr n g
  gh : Gr n h
  nd : left.Nodup
  all : ∀ k : Nat, k < n → (k : Int) ∈ left ∨ (k : Int) ∈ done
  dis : ∀ x ∈ done, x ∉ left
  rng : ∀ x ∈ left, 0 ≤ x ∧ x < (n : Int)
  rngd : ∀ x ∈ done, 0 ≤ x ∧ x < (n : Int)
  iso : ∀ x y, ge g x y = true → x ∈ left
  sub : ∀ x y, ge g x y = true → ge h x y = true
  same : ∀ x ∈ left, ∀ y ∈ left, ge h x y = ge g x y
  cl : ∀ c ∈ cliques, c.Nodup ∧ c.length ≤ n + 1 ∧ ∀ p ∈ c, ∀ q ∈ c, p ≠ q → ge h p q = true
  pa : PA h done left
  len : cliques.length + left.length = n

section
variable {n N : Nat} {left : List Int} {cliques : List (List Int)} {g h : List (List Bool)} {done : List Int}
theorem cut_mem {α : Type} {l : List α} (hn : l.Nodup) {k : Nat} (hk : k < l.length) {x : α} : x ∈ l.take k ++ l.drop (k + 1) ↔ x ∈ l ∧ x ≠ l[k] := by
  have e : l = l.take k ++ l[k] :: l.drop (k + 1) := by
    rw [← List.drop_eq_getElem_cons hk, List.take_append_drop]
  have hn2 : (l.take k ++ l[k] :: l.drop (k + 1)).Nodup := by rw [← e]; exact hn
  have e2 : x ∈ l ↔ x ∈ l.take k ++ l[k] :: l.drop (k + 1) := by rw [← e]
  rw [e2]
  generalize l.take k = A at *
  generalize l[k] = a at *
  generalize l.drop (k + 1) = B at *
  rw [List.nodup_append] at hn2
  obtain ⟨h1, h2, h3⟩ := hn2
  obtain ⟨h4, h5⟩ := List.nodup_cons.1 h2
  simp only [List.mem_append, List.mem_cons]
  constructor
  · rintro (h | h)
    · exact ⟨.inl h, h3 x h a (by simp)⟩
    · exact ⟨.inr (.inr h), fun e => h4 (e ▸ h)⟩
  · rintro ⟨h | h | h, hne⟩
    · exact .inl h
    · exact absurd h hne
    · exact .inr h
theorem cut_sub {α : Type} (l : List α) (k : Nat) : (l.take k ++ l.drop (k + 1)).Sublist l := by
  have := (List.Sublist.refl (l.take k)).append (List.drop_sublist 1 (l.drop k))
  rw [List.take_append_drop, List.drop_drop] at this
  exact this
theorem cut_len {α : Type} {l : List α} {k : Nat} (hk : k < l.length) : (l.take k ++ l.drop (k + 1)).length + 1 = l.length := by
  rw [List.length_append, List.length_take, List.length_drop]; omega

theorem FI.nears (H : FI n left cliques g h done) {a y z : Int} (hyz : y ≠ z) (e1 : ge g a y = true) (e2 : ge g a z = true) : ge (joinAll n h (wantL g (near n g a))) y z = true := by
  rw [ge_joinPut H.gg H.gh]
  unfold put
  rw [e1, e2, decide_eq_false hyz]
  cases hg : ge g y z
  · simp
  · rw [H.sub _ _ hg]; rfl
theorem FI.step (H : FI n left cliques g h done) (k : Nat) (hk : k < left.length) :
    FI n (left.take k ++ left.drop (k + 1)) (cliques ++ [insS left[k] (near n g left[k])]) (removeT n g left[k]) (joinAll n h (wantL g (near n g left[k]))) (left[k] :: done) := by
  have ha : left[k] ∈ left := List.getElem_mem _
  have hm : ∀ x, x ∈ left.take k ++ left.drop (k + 1) ↔ x ∈ left ∧ x ≠ left[k] := fun x => cut_mem H.nd hk
  have hs := cut_sub left k
  have hl := cut_len hk
  generalize left[k] = a at *
  generalize left.take k ++ left.drop (k + 1) = left' at *
  have har := H.rng a ha
  have hput : ∀ {x y}, put g n a x y = true → x ∈ left ∧ x ≠ a := fun {x y} hp => by
    unfold put at hp
    simp only [Bool.and_eq_true] at hp
    refine ⟨H.iso x a (by rw [H.gg.sym]; exact hp.1.1.1), fun e => ?_⟩
    subst e
    rw [H.gg.irr] at hp; cases hp.1.1.1
  refine ⟨H.gg.remove har, H.gh.joinAll, hs.nodup H.nd, ?_, ?_, ?_, ?_, ?_, ?_, ?_, ?_, ?_, ?_⟩
  · intro j hj
    rcases H.all j hj with h1 | h1
    · by_cases e : (j : Int) = a
      · exact .inr (by simp [e])
      · exact .inl ((hm _).2 ⟨h1, e⟩)
    · exact .inr (by simp [h1])
  · intro x hx hx'
    rcases List.mem_cons.1 hx with rfl | hx
    · exact ((hm _).1 hx').2 rfl
    · exact H.dis x hx ((hm _).1 hx').1
  · exact fun x hx => H.rng x ((hm _).1 hx).1
  · intro x hx
    rcases List.mem_cons.1 hx with rfl | hx
    · exact har
    · exact H.rngd x hx
  · intro x y hxy
    rw [ge_remove H.gg har, Bool.or_eq_true] at hxy
    rcases hxy with h1 | h1
    · simp only [Bool.and_eq_true, Bool.not_eq_true', decide_eq_false_iff_not] at h1
      exact (hm _).2 ⟨H.iso _ _ h1.1.1, h1.1.2⟩
    · exact (hm _).2 (hput h1)
  · intro x y hxy
    rw [ge_remove H.gg har, Bool.or_eq_true] at hxy
    rw [ge_joinPut H.gg H.gh, Bool.or_eq_true]
    rcases hxy with h1 | h1
    · simp only [Bool.and_eq_true, Bool.not_eq_true', decide_eq_false_iff_not] at h1
      exact .inl (H.sub _ _ h1.1.1)
    · exact .inr h1
  · intro x hx y hy
    obtain ⟨h1, h2⟩ := (hm _).1 hx
    obtain ⟨h3, h4⟩ := (hm _).1 hy
    rw [ge_remove H.gg har, ge_joinPut H.gg H.gh, H.same x h1 y h3, decide_eq_false h2, decide_eq_false h4]
    simp
  · intro c hc
    rcases List.mem_append.1 hc with hc | hc
    · obtain ⟨h1, h2, h3⟩ := H.cl c hc
      refine ⟨h1, h2, fun p hp q hq hpq => ?_⟩
      rw [ge_joinPut H.gg H.gh, h3 p hp q hq hpq]; rfl
    · rw [List.mem_singleton.1 hc]
      have hna : a ∉ near n g a := fun h => by have := near_mem.1 h; rw [H.gg.irr] at this; cases this
      refine ⟨insS_nodup ((gkeys_rises (row := row g a)).imp fun h => by omega) hna, by rw [insS_len]; have := near_len (a := a) H.gg.tab; omega, fun p hp q hq hpq => ?_⟩
      rcases insS_mem.1 hp with e1 | h1
      · rcases insS_mem.1 hq with e2 | h2
        · exact absurd (e1.trans e2.symm) hpq
        · rw [ge_joinPut H.gg H.gh, e1, H.sub _ _ (near_mem.1 h2)]; rfl
      · rcases insS_mem.1 hq with e2 | h2
        · rw [ge_joinPut H.gg H.gh, e2, H.gh.sym, H.sub _ _ (near_mem.1 h1)]; rfl
        · exact H.nears hpq (near_mem.1 h1) (near_mem.1 h2)
  · refine ⟨fun y hy z hz hyz e1 e2 => ?_, ?_⟩
    · have hpa : ∀ y, put g n a a y = false := fun y => by unfold put; rw [H.gg.irr]; rfl
      rw [ge_joinPut H.gg H.gh, hpa, Bool.or_false, H.same a ha _ ((hm _).1 hy).1] at e1
      rw [ge_joinPut H.gg H.gh, hpa, Bool.or_false, H.same a ha _ ((hm _).1 hz).1] at e2
      exact H.nears hyz e1 e2
    · refine PA.congr (l := left) (fun x => ?_) (PA.up (fun x hx y => ?_) (fun x y hxy => ?_) H.pa)
      · rw [List.mem_cons, hm]
        by_cases e : x = a
        · simp [e, ha]
        · simp [e]
      · rw [ge_joinPut H.gg H.gh]
        cases hp : put g n a x y
        · simp
        · exact absurd (hput hp).1 (H.dis x hx)
      · rw [ge_joinPut H.gg H.gh, hxy]; rfl
  · have := H.len
    rw [List.length_append, List.length_singleton]; omega
/-- What is wanting is put into h, each anew. -/
theorem FI.joins (H : FI n left cliques g h done) {a : Int} {l m : List (Int × Int)} {p : Int × Int} (he : wantL g (near n g a) = l ++ p :: m) : jn n (joinAll n h l) p.1 p.2 = true := by
  have hp : p ∈ wantL g (near n g a) := by rw [he]; simp
  have hr := want_range H.gg p hp
  have hsub : ∀ q ∈ l, q ∈ wantL g (near n g a) := fun q hq => by rw [he]; simp [hq]
  have hnd := wantL_nodup (t := g) (l := near n g a) gkeys_rises
  rw [he, List.nodup_append] at hnd
  obtain ⟨x, y⟩ := p
  obtain ⟨h1, h2, h3, h4⟩ := want_mem.1 hp
  unfold jn
  rw [decide_eq_true hr, ge_joinAll H.gh.tab H.gh.sym (fun q hq => want_range H.gg q (hsub q hq)), H.same x (H.iso _ a (by rw [H.gg.sym]; exact h1)) y (H.iso _ a (by rw [H.gg.sym]; exact h2)), h4]
  rw [Bool.false_or, Bool.true_and, Bool.not_eq_true', decide_eq_false_iff_not]
  rintro (hm | hm)
  · exact hnd.2.2 _ hm _ (by simp) rfl
  · have := want_mem.1 (hsub _ hm)
    have h5 := this.2.2.1; omega
end


section
variable {n N : Nat} {left : List Int} {cliques : List (List Int)} {g h : List (List Bool)} {done : List Int}
theorem Fill_L11 (H : FI n left cliques g h done) (hn : n ≤ 12) (k : Nat) (hk : k < left.length) (i : Int) (kk : List Int → List (List Int) → Int → List (List Bool) → List (List Bool) → Option Bool) (c : List Int) (g2 : List (List Bool)) :
    ∀ (l : List (Int × Int)) (f j : Nat), (wantL g (near n g left[k])).drop j = l → j ≤ (wantL g (near n g left[k])).length → (wantL g (near n g left[k])).length ≤ 1000 → l.length < f →
    m_credencelaw15_GraphFilled_L11 N left cliques i kk (k : Int) (c, wantL g (near n g left[k]), g2) f (j : Int) (joinAll n h ((wantL g (near n g left[k])).take j)) =
      kk (left.take k ++ left.drop (k + 1)) (cliques ++ [c]) (IntKind.i64.wrap (i + 1)) g2 (joinAll n h (wantL g (near n g left[k])))
  | _, 0, j, _, _, _, hf => by omega
  | [], f + 1, j, hd, hj, hl, hf => by
    have e1 := List.drop_eq_nil_iff.1 hd
    have hL := H.len
    have hlt : left.length ≤ n := by omega
    have w1 : IntKind.i64.wrap ((k : Int) + 1) = ((k + 1 : Nat) : Int) := by rw [w64 (by omega)]; omega
    rw [m_credencelaw15_GraphFilled_L11.eq_2]
    simp only []
    rw [if_neg (by simp; omega), List.take_of_length_le e1, w1]
    simp only [List.nil_append, Int.toNat_natCast]
    have t1 : (left.take k).length = k := by rw [List.length_take]; omega
    have t2 : (left.drop (k + 1)).length = left.length - (k + 1) := List.length_drop
    rw [chk_pos (by simp only [List.length_singleton, maxLen]; omega), chk_pos (by omega), chk_pos (by rw [t1]; simp only [List.length_nil, maxLen]; omega), chk_pos (by omega), chk_pos (by rw [t1, t2]; simp only [maxLen]; omega)]
    rfl
  | p :: l, f + 1, j, hd, hj, hl, hf => by
    have hlt : j < (wantL g (near n g left[k])).length := by
      rcases Nat.lt_or_ge j (wantL g (near n g left[k])).length with h1 | h1
      · exact h1
      · rw [List.drop_eq_nil_of_le h1] at hd; cases hd
    have hd2 : (wantL g (near n g left[k])).drop (j + 1) = l := by rw [← List.drop_drop, hd]; rfl
    have hp : (wantL g (near n g left[k]))[j] = p := by
      have := List.drop_eq_getElem_cons hlt
      rw [hd] at this; exact (List.cons.inj this).1.symm
    have he : wantL g (near n g left[k]) = (wantL g (near n g left[k])).take j ++ p :: l := by rw [← hd, List.take_append_drop]
    have hjn := H.joins he
    have IH := Fill_L11 H hn k hk i kk c g2 l f (j + 1) hd2 (by omega) hl (by simp only [List.length_cons] at hf; omega)
    have htk : (wantL g (near n g left[k])).take (j + 1) = (wantL g (near n g left[k])).take j ++ [p] := by
      rw [← List.take_append_getElem hlt, hp]
    rw [htk, joinAll_snoc] at IH
    rw [m_credencelaw15_GraphFilled_L11.eq_2]
    simp only []
    rw [if_pos (decide_eq_true (by omega)), at?_lt hlt, hp]
    simp only [Option.bind_some]
    rw [Join_eq H.gh.joinAll.tab, hjn]
    simp only [Option.bind_some]
    rw [if_neg (by decide), wS (by omega)]
    exact IH
theorem Fill_J10 (H : FI n left cliques g h done) (hn : n ≤ 12) (hN : 2048 < N) (k : Nat) (hk : k < left.length) (i : Int) (kk : List Int → List (List Int) → Int → List (List Bool) → List (List Bool) → Option Bool) :
    m_credencelaw15_GraphFilled_J10 N left cliques i g h kk (k : Int) =
      kk (left.take k ++ left.drop (k + 1)) (cliques ++ [insS left[k] (near n g left[k])]) (IntKind.i64.wrap (i + 1)) (removeT n g left[k]) (joinAll n h (wantL g (near n g left[k]))) := by
  have ha := H.rng left[k] (List.getElem_mem _)
  have H2 := H.step k hk
  have hn0 : near n (removeT n g left[k]) left[k] = [] := List.eq_nil_iff_forall_not_mem.2 fun b hb =>
    H2.dis left[k] (by simp) (H2.iso _ _ (near_mem.1 hb))
  have hl1 := near_len (a := left[k]) H.gg.tab
  have hl2 := wantL_len (t := g) (near n g left[k])
  have hl3 : (near n g left[k]).length * (near n g left[k]).length ≤ 12 * 12 := Nat.mul_le_mul (by omega) (by omega)
  unfold m_credencelaw15_GraphFilled_J10
  rw [at?_lt hk]
  simp only [Option.bind_some]
  rw [Fill_eq H.gg.tab (by omega), Remove_eq H.gg.tab (by omega) hN ha]
  simp only [Option.bind_some]
  rw [if_neg (by simp), insS_len, if_neg (by simp; omega), Near_eq H2.gg.tab (by omega), hn0]
  simp only [Option.bind_some]
  unfold m_credencelaw15_GraphFilled_J11
  rw [if_neg (by decide)]
  have := Fill_L11 (N := N) H hn k hk i kk (insS left[k] (near n g left[k])) (removeT n g left[k]) _ N 0 rfl (Nat.zero_le _) (by omega) (by rw [List.drop_zero]; omega)
  rw [List.take_zero] at this
  exact this

/-! ### the cliques looked over -/
theorem Fill_L14 (hh : Gr n h) (c : List Int) (ic : Nat) (hc : at? cliques (ic : Int) = some c) (a : Nat) (ha : a < c.length) (hl : c.length ≤ 1000) (hcl : c.Nodup ∧ ∀ p ∈ c, ∀ q ∈ c, p ≠ q → ge h p q = true) (kk : Int → Option Bool) : ∀ (f b : Nat), b ≤ a → a - b < f →
    m_credencelaw15_GraphFilled_L14 N cliques h (ic : Int) (a : Int) kk f (b : Int) = kk (IntKind.i64.wrap ((a : Int) + 1))
  | 0, b, _, hf => by omega
  | f + 1, b, hb, hf => by
    rw [m_credencelaw15_GraphFilled_L14.eq_2]
    by_cases hlt : b < a
    · rw [if_pos (decide_eq_true (by omega)), hc]
      simp only [Option.bind_some]
      rw [at?_lt ha, at?_lt (show b < c.length by omega)]
      simp only [Option.bind_some]
      rw [Has_eq hh.tab, hcl.2 _ (List.getElem_mem _) _ (List.getElem_mem _) (fun e => by
        exact List.pairwise_iff_getElem.1 hcl.1 b a (by omega) ha hlt e.symm)]
      simp only [Option.bind_some]
      rw [if_neg (by decide), wS (by omega)]
      exact Fill_L14 hh c ic hc a ha hl hcl kk f (b + 1) (by omega) (by omega)
    · rw [if_neg (by simp; omega)]
theorem Fill_L13 (hh : Gr n h) (hN : 2048 < N) (c : List Int) (ic : Nat) (hc : at? cliques (ic : Int) = some c) (hl : c.length ≤ 1000) (hcl : c.Nodup ∧ ∀ p ∈ c, ∀ q ∈ c, p ≠ q → ge h p q = true) (kk : Int → Option Bool) : ∀ (f a : Nat), a ≤ c.length → c.length - a < f →
    m_credencelaw15_GraphFilled_L13 N cliques h (ic : Int) kk f (a : Int) = kk (IntKind.i64.wrap ((ic : Int) + 1))
  | 0, a, _, hf => by omega
  | f + 1, a, ha, hf => by
    rw [m_credencelaw15_GraphFilled_L13.eq_2, hc]
    simp only [Option.bind_some]
    by_cases hlt : a < c.length
    · rw [if_pos (decide_eq_true (by omega))]
      have := Fill_L14 (N := N) (cliques := cliques) hh c ic hc a hlt hl hcl (m_credencelaw15_GraphFilled_L13 N cliques h (ic : Int) kk f) N 0 (Nat.zero_le _) (by omega)
      refine this.trans ?_
      rw [wS (by omega)]
      exact Fill_L13 hh hN c ic hc hl hcl kk f (a + 1) (by omega) (by omega)
    · rw [if_neg (by simp; omega)]
theorem Fill_L12 (H : FI n [] cliques g h done) (hn : n ≤ 12) (hN : 2048 < N) : ∀ (f i : Nat), i ≤ cliques.length → cliques.length - i < f →
    m_credencelaw15_GraphFilled_L12 N cliques g h f (i : Int) = some true
  | 0, i, _, hf => by omega
  | f + 1, i, hi, hf => by
    have hL := H.len
    simp only [List.length_nil] at hL
    rw [m_credencelaw15_GraphFilled_L12.eq_2]
    by_cases hlt : i < cliques.length
    · rw [if_pos (decide_eq_true (by omega))]
      obtain ⟨h1, h2, h3⟩ := H.cl cliques[i] (List.getElem_mem _)
      have := Fill_L13 (N := N) H.gh hN cliques[i] i (at?_lt hlt) (by omega) ⟨h1, h3⟩ (m_credencelaw15_GraphFilled_L12 N cliques g h f) N 0 (Nat.zero_le _) (by omega)
      refine this.trans ?_
      rw [wS (by omega)]
      exact Fill_L12 H hn hN f (i + 1) (by omega) (by omega)
    · have he : edgesL n g = [] := List.eq_nil_iff_forall_not_mem.2 fun p hp => by
        obtain ⟨x, y⟩ := p
        have := H.iso _ _ ((edgesL_mem H.gg.tab).1 hp).1
        cases this
      rw [if_neg (by simp; omega), listed_eq H.gg.tab (by omega) hN, he]
      simp only [Option.bind_some]
      rw [if_pos trivial, if_pos (by decide), Chordal_true H.gh (by omega) hN done.reverse (fun k hk => by
        rcases H.all k hk with h1 | h1
        · cases h1
        · simpa using h1) (fun x hx => H.rngd x (by simpa using hx)) (by
        have := PA.peo H.pa (by trivial)
        simpa using this)]
      rfl
theorem Fill_L10 (hn : n ≤ 12) (hN : 2048 < N) (order : List Int) : ∀ (m : Nat) (left : List Int) (cliques : List (List Int)) (g h : List (List Bool)) (done : List Int) (i f : Nat), FI n left cliques g h done → left.length = m → m < f → i + m ≤ 1000 →
    m_credencelaw15_GraphFilled_L10 N order f left cliques (i : Int) g h = some true
  | m, left, cliques, g, h, done, i, 0, H, hm, hf, hi => by omega
  | 0, left, cliques, g, h, done, i, f + 1, H, hm, hf, hi => by
    have : left = [] := List.eq_nil_of_length_eq_zero hm
    subst this
    rw [m_credencelaw15_GraphFilled_L10.eq_2, if_neg (by simp)]
    have hL := H.len
    simp only [List.length_nil] at hL
    exact Fill_L12 H hn hN N 0 (Nat.zero_le _) (by omega)
  | m + 1, left, cliques, g, h, done, i, f + 1, H, hm, hf, hi => by
    have hL := H.len
    have key : ∀ k : Nat, k < left.length → m_credencelaw15_GraphFilled_J10 N left cliques (i : Int) g h (m_credencelaw15_GraphFilled_L10 N order f) (k : Int) = some true := fun k hk => by
      have hl := cut_len hk
      rw [Fill_J10 H hn hN k hk, wS (by omega)]
      exact Fill_L10 hn hN order m _ _ _ _ _ (i + 1) f (H.step k hk) (by omega) (by omega) (by omega)
    rw [m_credencelaw15_GraphFilled_L10.eq_2, if_pos (decide_eq_true (by omega))]
    by_cases hlt : i < order.length
    · rw [if_pos (decide_eq_true (by omega)), at?_lt hlt]
      simp only [Option.bind_some]
      obtain ⟨k, hk, e⟩ := pick_eq (i := order[i]) (n := left.length) (by omega)
      rw [e]
      exact key k hk
    · rw [if_neg (by simp; omega)]
      exact key 0 (by omega)
end
section
variable {n N : Nat} {t : List (List Bool)}
theorem FI.start (h : Gr n t) : FI n ((List.range n).map fun k : Nat => (k : Int)) [] t t [] := by
  refine ⟨h, h, ?_, fun k hk => .inl (List.mem_map.2 ⟨k, List.mem_range.2 hk, rfl⟩), by simp, fun x hx => ?_, by simp, fun x y hxy => ?_, fun _ _ h => h, fun _ _ _ _ => rfl, by simp, trivial, by simp⟩
  · rw [List.Nodup, List.pairwise_map]
    exact List.nodup_range.imp fun h e => h (by omega)
  · obtain ⟨k, hk, rfl⟩ := List.mem_map.1 hx
    have := List.mem_range.1 hk; omega
  · have := (h.tab.range hxy).1
    exact List.mem_map.2 ⟨x.toNat, List.mem_range.2 (by omega), by omega⟩
theorem Fill_L9 (h : Gr n t) (hn : n ≤ 12) (hN : 2048 < N) (order : List Int) : ∀ (f i : Nat), i ≤ n → n - i < f →
    m_credencelaw15_GraphFilled_L9 N order t t f ((List.range i).map fun k : Nat => (k : Int)) (i : Int) = some true
  | 0, i, _, hf => by omega
  | f + 1, i, hi, hf => by
    rw [m_credencelaw15_GraphFilled_L9.eq_2]
    unfold m_graph_Graph_Len
    simp only [Option.bind_some]
    rw [h.tab.len]
    by_cases hlt : i < n
    · rw [if_pos (decide_eq_true (by omega)), chk_pos (by simp only [List.length_map, List.length_range, List.length_singleton, maxLen]; omega), wS (by omega)]
      have IH := Fill_L9 h hn hN order f (i + 1) (by omega) (by omega)
      rw [List.range_succ, List.map_append] at IH
      exact IH
    · have : i = n := by omega
      subst this
      rw [if_neg (by simp)]
      exact Fill_L10 hn hN order i _ _ _ _ _ 0 N (FI.start h) (by simp) (by omega) (by omega)
end
theorem GraphFilled_true (N : Nat) (hN : 3000000 ≤ N) (k : Int) (pairs order : List Int) (hp : pairs.length ≤ 9223372036854775000) (hpN : pairs.length + 1 < N) :
    m_credencelaw15_GraphFilled N k pairs order = some true := by
  unfold m_credencelaw15_GraphFilled w_credencelaw15_awake
  simp only [Option.bind_some]
  obtain ⟨n, t, hn, hg, e⟩ := drawn_eq (N := N) pairs hp hpN k
  rw [e]
  simp only [Option.bind_some]
  unfold optC
  simp only []
  rw [if_neg (by decide)]
  unfold m_credencelaw15_GraphFilled_J8
  rw [if_neg (by decide)]
  have := Fill_L9 (N := N) hg hn (by omega) order N 0 (Nat.zero_le _) (by omega)
  simpa using this

end Go.Proofs.Ytgkofjmeopbkbaa
