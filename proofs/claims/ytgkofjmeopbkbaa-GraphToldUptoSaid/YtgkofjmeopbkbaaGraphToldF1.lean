/-
  What functions of the program compute, as plain Lean functions (m_..), and proofs that they compute it (c_..). Printed by a program of the author; no conditions.
-/
import Derived.Test.YtgkofjmeopbkbaaGraphToldBFloat
import Derived.Test.YtgkofjmeopbkbaaProg
import Derived.Test.YtgkofjmeopbkbaaGraphToldBBfs
import Derived.Test.YtgkofjmeopbkbaaGraphToldBGraph
import Derived.Test.YtgkofjmeopbkbaaGraphToldBInsert
import Derived.Test.YtgkofjmeopbkbaaGraphToldBKeys
import Derived.Test.YtgkofjmeopbkbaaGraphToldBLibSort
import Derived.Test.YtgkofjmeopbkbaaShelf
set_option linter.unusedVariables false
namespace Go.Proofs.Ytgkofjmeopbkbaa
open Go Go.RowKit


theorem w64 {x : Int} (h : -9223372036854775808 ≤ x ∧ x ≤ 9223372036854775807) : IntKind.i64.wrap x = x := by rw [IntKind.wrap_i64]; omega
theorem chk_pos {α : Type} {c : Prop} [Decidable c] {x : Option α} (h : c) : chk c x = x := if_pos h
theorem at?_lt {α : Type} {xs : List α} {k : Nat} (h : k < xs.length) : at? xs (k : Int) = some xs[k] := by rw [at?_nat]; exact List.getElem?_eq_getElem h
theorem wS {k : Nat} (h : k < 9223372036854775807) : IntKind.i64.wrap ((k : Int) + 1) = ((k + 1 : Nat) : Int) := by rw [w64 (by omega)]; rfl
section
variable {K V : Type} [DecidableEq K]
end



def m_graph_Graph_Len (p0_g : List (List Bool)) : Option Int :=
  some (p0_g.length : Int)

set_option maxRecDepth 100000 in
set_option maxHeartbeats 2000000 in
theorem c_graph_Graph_Len (col : Col) (w0 : World) (qc0 : Nat) (hqqc0 : qc0 ≠ 0) (o0 : GObj) (p0_g : List (List Bool)) (h0 : GO 85 86 qc0 col w0 o0 p0_g) (r : Int) (hm : m_graph_Graph_Len p0_g = some r) :
    Calls Try.prog 15 #[(.pointer (some ⟨o0.g, 0, none⟩))] w0 (fun e w' => e = .returned ((.int .i64 r)) ∧ Below w0.heap.size w0 w') := by
  refine calls_of1 2 (m := 8) (args := [(.pointer (some ⟨o0.g, 0, none⟩))]) Try.func15 rfl rfl rfl rfl rfl ?_
  rw [m_graph_Graph_Len.eq_1] at hm
  have hst := St.start col w0
  replace h0 := h0.start0 hqqc0
  refine wseq ?_
  refine wregion ?_
  refine lv (v := (.int .i64 0)) rfl rfl (r_assign rfl) ?_
  refine lnil ?_
  refine wseq ?_
  refine wregion ?_
  refine lv (v := (.pointer (some ⟨o0.g, 0, none⟩))) rfl rfl (r_move rfl) ?_
  refine lv (v := (.pointer (some ⟨o0.g, 0, none⟩))) rfl rfl (r_nilCheck rfl) ?_
  refine lv (v := (.pointer ((some (⟨o0.g, 0, none⟩ : Addr)).map (·.add 0)))) rfl rfl (r_fieldAddr (sz := 1) (off := 0) Try.underlying85 rfl Try.sizeOf83 (by decide) rfl rfl ⟨_, _, rfl⟩) ?_
  refine lv (v := (.slice o0.a p0_g.length o0.cap)) rfl rfl (r_ld Try.isAgg83 rfl ((h0.box.atN).nth (q := 0) (v := (.slice o0.a p0_g.length o0.cap)) rfl)) ?_
  refine lv (v := (.int .i64 (p0_g.length : Int))) rfl rfl (r_len Try.underlying83 rfl) ?_
  refine lv (v := (.int .i64 (p0_g.length : Int))) rfl rfl (r_assign rfl) ?_
  refine lnil ?_
  refine wret ?_
  cases hm
  exact ⟨rfl, rfl, hst.below⟩




def m_graph_Graph_in_J1 (v_4 : Bool) : Option Bool :=
  some v_4

def m_graph_Graph_in (p0_g : List (List Bool)) (p1_a : Int) : Option Bool :=
  if (decide (0 ≤ p1_a)) = true then (m_graph_Graph_in_J1 (decide (p1_a < (p0_g.length : Int)))) else (m_graph_Graph_in_J1 false)

set_option maxRecDepth 100000 in
set_option maxHeartbeats 2000000 in
theorem c_graph_Graph_in (col : Col) (w0 : World) (qc0 : Nat) (hqqc0 : qc0 ≠ 0) (o0 : GObj) (p0_g : List (List Bool)) (p1_a : Int) (h0 : GO 85 86 qc0 col w0 o0 p0_g) (r : Bool) (hm : m_graph_Graph_in p0_g p1_a = some r) :
    Calls Try.prog 54 #[(.pointer (some ⟨o0.g, 0, none⟩)), (.int .i64 p1_a)] w0 (fun e w' => e = .returned ((.bool r)) ∧ Below w0.heap.size w0 w') := by
  refine calls_of1 4 (m := 16) (args := [(.pointer (some ⟨o0.g, 0, none⟩)), (.int .i64 p1_a)]) Try.func54 rfl rfl rfl rfl rfl ?_
  rw [m_graph_Graph_in.eq_1] at hm
  have hst := St.start col w0
  replace h0 := h0.start0 hqqc0
  refine wseq ?_
  refine wregion ?_
  refine lv (v := (.bool false)) rfl rfl (r_assign rfl) ?_
  refine lnil ?_
  refine wseq ?_
  refine Wp.cut (fun f w_2 => ∃ (col_3 : Col) (v_4 : Bool), m_graph_Graph_in_J1 v_4 = some r ∧ St w0 (col0 col) col_3 w_2 ∧ f 4 = (.bool v_4) ∧ f 1000000 = (enc [])) ?_ ?_
  · intro f w_2 hJ
    obtain ⟨col_3, v_4, hm, hst, hs4, hs1000000⟩ := hJ
    rw [m_graph_Graph_in_J1.eq_1] at hm
    refine .ld (d := 4) (v := (.bool v_4)) hs4 ?_
    refine .ld (d := 1000000) (v := (enc [])) hs1000000 ?_
    clear hs4 hs1000000
    refine wret ?_
    cases hm
    exact ⟨rfl, rfl, hst.below⟩
  · refine wregion ?_
    refine lv (v := (.int .i64 p1_a)) rfl rfl (r_move rfl) ?_
    refine lv (v := (.bool (decide (0 ≤ p1_a)))) rfl rfl (r_geq p1_a 0 rfl rfl) ?_
    refine lv (v := (.bool (decide (0 ≤ p1_a)))) rfl rfl (r_move rfl) ?_
    by_cases hg_5 : (decide (0 ≤ p1_a)) = true
    · rw [if_pos hg_5] at hm
      refine lg (b := decide (0 ≤ p1_a)) 7 rfl rfl rfl (by rw [hg_5]; rfl) ?_
      refine lv (v := (.int .i64 p1_a)) rfl rfl (r_move rfl) ?_
      refine lg (b := decide (0 ≤ p1_a)) 7 rfl rfl rfl (by rw [hg_5]; rfl) ?_
      refine lv (v := (.pointer (some ⟨o0.g, 0, none⟩))) rfl rfl (r_move rfl) ?_
      refine lg (b := decide (0 ≤ p1_a)) 7 rfl rfl rfl (by rw [hg_5]; rfl) ?_
      refine lv (v := (.pointer (some ⟨o0.g, 0, none⟩))) rfl rfl (r_nilCheck rfl) ?_
      refine lg (b := decide (0 ≤ p1_a)) 7 rfl rfl rfl (by rw [hg_5]; rfl) ?_
      refine lv (v := (.pointer ((some (⟨o0.g, 0, none⟩ : Addr)).map (·.add 0)))) rfl rfl (r_fieldAddr (sz := 1) (off := 0) Try.underlying85 rfl Try.sizeOf83 (by decide) rfl rfl ⟨_, _, rfl⟩) ?_
      refine lg (b := decide (0 ≤ p1_a)) 7 rfl rfl rfl (by rw [hg_5]; rfl) ?_
      refine lv (v := (.slice o0.a p0_g.length o0.cap)) rfl rfl (r_ld Try.isAgg83 rfl ((h0.box.atN).nth (q := 0) (v := (.slice o0.a p0_g.length o0.cap)) rfl)) ?_
      refine lg (b := decide (0 ≤ p1_a)) 7 rfl rfl rfl (by rw [hg_5]; rfl) ?_
      refine lv (v := (.int .i64 (p0_g.length : Int))) rfl rfl (r_len Try.underlying83 rfl) ?_
      refine lg (b := decide (0 ≤ p1_a)) 7 rfl rfl rfl (by rw [hg_5]; rfl) ?_
      refine lv (v := (.bool (decide (p1_a < (p0_g.length : Int))))) rfl rfl (r_lss p1_a (p0_g.length : Int) rfl rfl) ?_
      refine lv (v := (.bool (decide (p1_a < (p0_g.length : Int))))) rfl rfl (r_pickT (congrArg Value.bool hg_5) rfl) ?_
      refine lv (v := (.bool (decide (p1_a < (p0_g.length : Int))))) rfl rfl (r_assign rfl) ?_
      refine lnil ?_
      exact ⟨(col0 col), (decide (p1_a < (p0_g.length : Int))), hm, hst, rfl, rfl⟩
    · rw [if_neg hg_5] at hm
      replace hg_5 := Bool.eq_false_iff.2 hg_5
      refine lp (b := decide (0 ≤ p1_a)) 7 rfl rfl rfl rfl (by rw [hg_5]; rfl) ?_
      refine lp (b := decide (0 ≤ p1_a)) 7 rfl rfl rfl rfl (by rw [hg_5]; rfl) ?_
      refine lp (b := decide (0 ≤ p1_a)) 7 rfl rfl rfl rfl (by rw [hg_5]; rfl) ?_
      refine lp (b := decide (0 ≤ p1_a)) 7 rfl rfl rfl rfl (by rw [hg_5]; rfl) ?_
      refine lp (b := decide (0 ≤ p1_a)) 7 rfl rfl rfl rfl (by rw [hg_5]; rfl) ?_
      refine lp (b := decide (0 ≤ p1_a)) 7 rfl rfl rfl rfl (by rw [hg_5]; rfl) ?_
      refine lp (b := decide (0 ≤ p1_a)) 7 rfl rfl rfl rfl (by rw [hg_5]; rfl) ?_
      refine lv (v := (.bool false)) rfl rfl (r_pickF (congrArg Value.bool hg_5) rfl) ?_
      refine lv (v := (.bool false)) rfl rfl (r_assign rfl) ?_
      refine lnil ?_
      exact ⟨(col0 col), false, hm, hst, rfl, rfl⟩




def m_graph_Graph_Near (p0_g : List (List Bool)) (p1_a : Int) : Option (List Int) :=
  (m_graph_Graph_in p0_g p1_a).bind fun r_1 => if (!r_1) = true then (some ([] : List Int)) else ((at? p0_g p1_a).bind fun row_5 => chk (row_5.length ≤ 1048576) (some (gkeys row_5)))

set_option maxRecDepth 100000 in
set_option maxHeartbeats 2000000 in
theorem c_graph_Graph_Near (c1 : Nat) (col : Col) (w0 : World) (qc0 : Nat) (hqqc0 : qc0 ≠ 0) (o0 : GObj) (p0_g : List (List Bool)) (p1_a : Int) (h0 : GO 85 86 qc0 col w0 o0 p0_g) (r : (List Int)) (hm : m_graph_Graph_Near p0_g p1_a = some r) :
    Calls Try.prog 22 #[(.pointer (some ⟨o0.g, 0, none⟩)), (.int .i64 p1_a)] w0 (fun e w' => ∃ (col' : Col) (ra1 : Option Addr) (rc2 : Nat), e = .returned ((.slice ra1 r.length rc2)) ∧ Grow col w0 col' w' ∧ Own (Rep.int .i64) 3 c1 col' w' ra1 rc2 r) := by
  refine calls_of1 4 (m := 18) (args := [(.pointer (some ⟨o0.g, 0, none⟩)), (.int .i64 p1_a)]) Try.func22 rfl rfl rfl rfl rfl ?_
  rw [m_graph_Graph_Near.eq_1] at hm
  have hst := St.start col w0
  replace h0 := h0.start0 hqqc0
  refine wseq ?_
  refine wregion ?_
  refine lv (v := (.slice none (([] : List Int).length) 0)) rfl rfl (r_assign rfl) ?_
  refine lnil ?_
  refine wseq ?_
  refine wseq ?_
  refine wregion ?_
  refine lv (v := (.pointer (some ⟨o0.g, 0, none⟩))) rfl rfl (r_move rfl) ?_
  refine lv (v := (.int .i64 p1_a)) rfl rfl (r_move rfl) ?_
  obtain ⟨r_1, hr_2, hm⟩ := bind_some hm
  refine lc rfl rfl (r_call2 Try.call54 rfl rfl) (c_graph_Graph_in (col0 col) _ 999 (by decide) o0 p0_g p1_a h0 r_1 hr_2) ?_
  rintro _ w_3 ⟨rfl, hg_4⟩
  refine ⟨_, rfl, ?_⟩
  replace hg_4 : Grow (col0 col) w0 (col0 col) w_3 := .of_below hg_4
  replace h0 := h0.gr hg_4
  replace hst := hst.grow hg_4
  refine lv (v := (.bool (!r_1))) rfl rfl (r_not r_1 rfl) ?_
  refine lnil ?_
  refine wcond (!r_1) rfl (fun hb => ?_) (fun hb => ?_)
  · rw [if_pos hb] at hm
    clear hb
    refine wseq ?_
    refine wregion ?_
    refine lv (v := (.slice none (([] : List Int).length) 0)) rfl rfl (r_assign rfl) ?_
    refine lnil ?_
    refine wret ?_
    cases hm
    exact ⟨rfl, colF w0.heap.size col (col0 col) (fun n => 0), none, 0, rfl, hst.fin (fun n => 0), Own.nil⟩
  · rw [if_neg (by rw [hb]; decide)] at hm
    clear hb
    refine wskip ?_
    refine wseq ?_
    refine wregion ?_
    refine lv (v := (.pointer (some ⟨o0.g, 0, none⟩))) rfl rfl (r_move rfl) ?_
    refine lv (v := (.pointer (some ⟨o0.g, 0, none⟩))) rfl rfl (r_nilCheck rfl) ?_
    refine lv (v := (.pointer ((some (⟨o0.g, 0, none⟩ : Addr)).map (·.add 0)))) rfl rfl (r_fieldAddr (sz := 1) (off := 0) Try.underlying85 rfl Try.sizeOf83 (by decide) rfl rfl ⟨_, _, rfl⟩) ?_
    refine lv (v := (.slice o0.a p0_g.length o0.cap)) rfl rfl (r_ld Try.isAgg83 rfl ((h0.box.atN).nth (q := 0) (v := (.slice o0.a p0_g.length o0.cap)) rfl)) ?_
    refine lv (v := (.int .i64 p1_a)) rfl rfl (r_move rfl) ?_
    obtain ⟨row_5, hj_6, hm⟩ := bind_some hm
    obtain ⟨b_7, hb_8, _, hb_9⟩ := h0.blk hj_6
    refine lv (v := (sptr o0.a (Int.toNat p1_a * 1))) rfl rfl (r_idx Try.underlying83 Try.sizeOf86 rfl rfl (at?_some hj_6).1 (at?_some hj_6).2.1 (h0.addr hb_8)) ?_
    refine lv (v := (.map (some b_7))) rfl rfl (r_ld Try.isAgg86 rfl (h0.at1 hb_8)) ?_
    refine lc rfl rfl (r_call1 Try.call56 rfl) (c_keys 1 b_7 (col0 col) _) ?_
    rintro _ w_10 ⟨col_11, g_12, rfl, hg_13, hb_14⟩
    refine ⟨_, rfl, ?_⟩
    replace h0 := h0.gr hg_13
    replace hst := hst.grow hg_13
    obtain ⟨hc_21, hm⟩ := chk_some hm
    refine lc rfl rfl (r_call1 Try.call55 rfl) (c_sortedKeys 2 1 999 b_7 g_12 col_11 _ row_5 hb_14 (h0.maps _ _ _ hb_9 (at?_some hj_6).2.2) hc_21) ?_
    rintro _ w_15 ⟨col_16, a_17, cap_18, rfl, hg_19, h_20⟩
    refine ⟨_, rfl, ?_⟩
    replace h0 := h0.gr hg_19
    replace hst := hst.grow hg_19
    refine lv (v := (.slice a_17 ((gkeys row_5).length) cap_18)) rfl rfl (r_assign rfl) ?_
    refine lnil ?_
    refine wret ?_
    cases hm
    exact ⟨rfl, colF w0.heap.size col col_16 (fun n => bif Nat.beq n 2 then c1 else 0), a_17, cap_18, rfl, hst.fin (fun n => bif Nat.beq n 2 then c1 else 0), hst.finOwn (g := (fun n => bif Nat.beq n 2 then c1 else 0)) rfl h_20 (by decide) (by decide) rfl⟩



set_option maxRecDepth 100000 in
theorem el47_53 : ElemOk Try.prog 47 2 16 := ⟨Try.t47, _, rfl, rfl, rfl, rfl, rfl⟩

def m_graph_Graph_wanting_J1 (kk_L2 : ((List (Int × Int)) → Option (List (Int × Int)))) (l_35 : List (Int × Int)) : Option (List (Int × Int)) :=
  kk_L2 l_35

def m_graph_Graph_wanting_L2 (p0_g : List (List Bool)) (k_9 : Nat) (kk_L1 : (Nat → (List (Int × Int)) → Option (List (Int × Int)))) (x_17 : Int) : List Int → (List (Int × Int)) → Option (List (Int × Int))
  | [], l_27 => kk_L1 (k_9 + 1) l_27
  | x_31 :: l_32, l_27 => (at? p0_g x_17).bind fun row_39 => if (!(gat row_39 x_31)) = true then (chk ((l_27.length + [(x_17, x_31)].length) * 16 ≤ 140737488355328 ∧ l_27.length + [(x_17, x_31)].length ≤ maxLen) (m_graph_Graph_wanting_J1 (m_graph_Graph_wanting_L2 p0_g k_9 kk_L1 x_17 l_32) (l_27 ++ [(x_17, x_31)]))) else (m_graph_Graph_wanting_J1 (m_graph_Graph_wanting_L2 p0_g k_9 kk_L1 x_17 l_32) l_27)

def m_graph_Graph_wanting_L1 (p0_g : List (List Bool)) (r_1 : (List Int)) : List Int → Nat → (List (Int × Int)) → Option (List (Int × Int))
  | [], k_9, l_13 => some l_13
  | x_17 :: l_18, k_9, l_13 => chk ((0 : Int) ≤ (IntKind.i64.wrap ((k_9 : Int) + 1)) ∧ (IntKind.i64.wrap ((k_9 : Int) + 1)) ≤ (r_1.length : Int)) (m_graph_Graph_wanting_L2 p0_g k_9 (m_graph_Graph_wanting_L1 p0_g r_1 l_18) x_17 (r_1.drop (Int.toNat (IntKind.i64.wrap ((k_9 : Int) + 1)))) l_13)

def m_graph_Graph_wanting (p0_g : List (List Bool)) (p1_a : Int) : Option (List (Int × Int)) :=
  (m_graph_Graph_Near p0_g p1_a).bind fun r_1 => m_graph_Graph_wanting_L1 p0_g r_1 r_1 0 ([] : List (Int × Int))

set_option maxRecDepth 100000 in
set_option maxHeartbeats 2000000 in
theorem c_graph_Graph_wanting (c1 : Nat) (col : Col) (w0 : World) (qc0 : Nat) (hqqc0 : qc0 ≠ 0) (o0 : GObj) (p0_g : List (List Bool)) (p1_a : Int) (h0 : GO 85 86 qc0 col w0 o0 p0_g) (r : (List (Int × Int))) (hm : m_graph_Graph_wanting p0_g p1_a = some r) :
    Calls Try.prog 53 #[(.pointer (some ⟨o0.g, 0, none⟩)), (.int .i64 p1_a)] w0 (fun e w' => ∃ (col' : Col) (ra1 : Option Addr) (rc2 : Nat), e = .returned ((.slice ra1 r.length rc2)) ∧ Grow col w0 col' w' ∧ Own (Rep.pair (Rep.int .i64) (Rep.int .i64)) 47 c1 col' w' ra1 rc2 r) := by
  refine calls_of1 4 (m := 49) (args := [(.pointer (some ⟨o0.g, 0, none⟩)), (.int .i64 p1_a)]) Try.func53 rfl rfl rfl rfl rfl ?_
  rw [m_graph_Graph_wanting.eq_1] at hm
  have hst := St.start col w0
  replace h0 := h0.start0 hqqc0
  refine wseq ?_
  refine wregion ?_
  refine lv (v := (.slice none (([] : List (Int × Int)).length) 0)) rfl rfl (r_assign rfl) ?_
  refine lnil ?_
  refine wseq ?_
  refine wregion ?_
  refine lv (v := (.slice none (([] : List (Int × Int)).length) 0)) rfl rfl (r_assign rfl) ?_
  refine lnil ?_
  refine wseq ?_
  refine wregion ?_
  refine lv (v := (.pointer (some ⟨o0.g, 0, none⟩))) rfl rfl (r_move rfl) ?_
  refine lv (v := (.int .i64 p1_a)) rfl rfl (r_move rfl) ?_
  obtain ⟨r_1, hr_2, hm⟩ := bind_some hm
  refine lc rfl rfl (r_call2 Try.call22 rfl rfl) (c_graph_Graph_Near 1 (col0 col) _ 999 (by decide) o0 p0_g p1_a h0 r_1 hr_2) ?_
  rintro _ w_6 ⟨col_8, ra_3, rc_4, rfl, hg_7, rh_5⟩
  refine ⟨_, rfl, ?_⟩
  replace h0 := h0.gr hg_7
  replace hst := hst.grow hg_7
  refine lv (v := (.slice ra_3 r_1.length rc_4)) rfl rfl (r_assign rfl) ?_
  refine lnil ?_
  refine wseq ?_
  refine wseq ?_
  refine wregion ?_
  refine lv (v := (.slice ra_3 r_1.length rc_4)) rfl rfl (r_move rfl) ?_
  refine lv (v := (.int .i64 (r_1.length : Int))) rfl rfl (r_len Try.underlying22 rfl) ?_
  refine lv (v := (.int .i64 0)) rfl rfl (r_move rfl) ?_
  refine lnil ?_
  refine wblock ?_
  replace h0 := h0.froz 1 (by decide)
  replace rh_5 := (rh_5).toSlF (Froz.int .i64)
  replace hst := hst.froz 1 (by decide) (by decide)
  refine wloop (fun n f w_11 => ∃ (col_12 : Col) (k_9 : Nat) (a_14 : Option Addr) (cap_15 : Nat) (l_13 : List (Int × Int)) (l_10 : List Int), n = l_10.length ∧ r_1.drop k_9 = l_10 ∧ m_graph_Graph_wanting_L1 p0_g r_1 l_10 k_9 l_13 = some r ∧ St w0 (col0 col) col_12 w_11 ∧ GO 85 86 999 col_12 w_11 o0 p0_g ∧ Sl (Rep.int .i64) col_12 w_11 ra_3 rc_4 r_1 ∧ Own (Rep.pair (Rep.int .i64) (Rep.int .i64)) 47 2 col_12 w_11 a_14 cap_15 l_13 ∧ f 16 = (.int .i64 (k_9 : Int)) ∧ f 0 = (.pointer (some ⟨o0.g, 0, none⟩)) ∧ f 14 = (.slice ra_3 r_1.length rc_4) ∧ f 15 = (.int .i64 (r_1.length : Int)) ∧ f 5 = (.slice a_14 l_13.length cap_15) ∧ f 6 = (.slice ra_3 r_1.length rc_4) ∧ f 1000000 = (enc [])) r_1.length ⟨(frC 1 col_8), 0, none, 0, ([] : List (Int × Int)), r_1, rfl, rfl, hm, hst, h0, rh_5, Own.nil, rfl, rfl, rfl, rfl, rfl, rfl, rfl⟩ ?_
  clear hm; intro n f w_11 hI
  obtain ⟨col_12, k_9, a_14, cap_15, l_13, l_10, hn, hl, hm, hst, h0, rh_5, h_16, hs16, hs0, hs14, hs15, hs5, hs6, hs1000000⟩ := hI
  subst hn
  refine .ld (d := 16) (v := (.int .i64 (k_9 : Int))) hs16 ?_
  refine .ld (d := 0) (v := (.pointer (some ⟨o0.g, 0, none⟩))) hs0 ?_
  refine .ld (d := 14) (v := (.slice ra_3 r_1.length rc_4)) hs14 ?_
  refine .ld (d := 15) (v := (.int .i64 (r_1.length : Int))) hs15 ?_
  refine .ld (d := 5) (v := (.slice a_14 l_13.length cap_15)) hs5 ?_
  refine .ld (d := 6) (v := (.slice ra_3 r_1.length rc_4)) hs6 ?_
  refine .ld (d := 1000000) (v := (enc [])) hs1000000 ?_
  clear hs16 hs0 hs14 hs15 hs5 hs6 hs1000000
  cases l_10 with
  | nil =>
    have hk : ¬ ((k_9 : Int) < (r_1.length : Int)) := by have := List.drop_eq_nil_iff.1 hl; omega
    have hkb := decide_eq_false hk
    rw [m_graph_Graph_wanting_L1.eq_1] at hm
    refine wseq ?_
    refine wregion ?_
    refine lv (v := (.bool (decide ((k_9 : Int) < (r_1.length : Int))))) rfl rfl (r_lss (k_9 : Int) (r_1.length : Int) rfl rfl) ?_
    refine lnil ?_
    refine wseq ?_
    refine wcondF (congrArg Value.bool hkb) ?_
    refine wexit (inB_hit ?_)
    refine wseq ?_
    refine wregion ?_
    refine lv (v := (.slice a_14 l_13.length cap_15)) rfl rfl (r_move rfl) ?_
    refine lv (v := (.slice a_14 l_13.length cap_15)) rfl rfl (r_assign rfl) ?_
    refine lnil ?_
    refine wret ?_
    cases hm
    exact ⟨rfl, colF w0.heap.size col col_12 (fun n => bif Nat.beq n 2 then c1 else 0), a_14, cap_15, rfl, hst.fin (fun n => bif Nat.beq n 2 then c1 else 0), hst.finOwn (g := (fun n => bif Nat.beq n 2 then c1 else 0)) rfl h_16 (by decide) (by decide) rfl⟩
  | cons x_17 l_18 =>
    obtain ⟨hat, hl2, hlt⟩ := drop_get hl
    have hk : (k_9 : Int) < (r_1.length : Int) := by omega
    have hkb := decide_eq_true hk
    rw [m_graph_Graph_wanting_L1.eq_2] at hm
    refine wseq ?_
    refine wregion ?_
    refine lv (v := (.bool (decide ((k_9 : Int) < (r_1.length : Int))))) rfl rfl (r_lss (k_9 : Int) (r_1.length : Int) rfl rfl) ?_
    refine lnil ?_
    refine wseq ?_
    refine wcondT (congrArg Value.bool hkb) ?_
    refine wskip ?_
    refine wseq ?_
    refine wblock ?_
    refine wseq ?_
    refine wregion ?_
    refine lv (v := (.int .i64 (k_9 : Int))) rfl rfl (r_move rfl) ?_
    refine lv (v := (sptr ra_3 (Int.toNat (k_9 : Int) * 1))) rfl rfl (r_idx Try.underlying22 Try.sizeOf3 rfl rfl (at?_some hat).1 (at?_some hat).2.1 (rh_5.addr hat)) ?_
    refine lv (v := (.int .i64 x_17)) rfl rfl (r_ld Try.isAgg3 rfl (rh_5.atInt hat)) ?_
    refine lv (v := (.int .i64 (k_9 : Int))) rfl rfl (r_assign rfl) ?_
    refine lv (v := (.int .i64 x_17)) rfl rfl (r_assign rfl) ?_
    refine lnil ?_
    refine wseq ?_
    refine wregion ?_
    refine lv (v := (.slice ra_3 r_1.length rc_4)) rfl rfl (r_move rfl) ?_
    refine lv (v := (.int .i64 (k_9 : Int))) rfl rfl (r_move rfl) ?_
    refine lv (v := (.int .i64 (IntKind.i64.wrap ((k_9 : Int) + 1)))) rfl rfl (r_add (k_9 : Int) 1 rfl rfl) ?_
    obtain ⟨hb_19, hm⟩ := chk_some hm
    have h_22 := rh_5.drop (sz := 1) rfl (Int.toNat (IntKind.i64.wrap ((k_9 : Int) + 1)))
    refine lv (v := .slice (if rc_4 = (Int.toNat (IntKind.i64.wrap ((k_9 : Int) + 1))) then ra_3 else ra_3.map (·.add ((Int.toNat (IntKind.i64.wrap ((k_9 : Int) + 1))) * 1))) (r_1.length - (Int.toNat (IntKind.i64.wrap ((k_9 : Int) + 1)))) (rc_4 - (Int.toNat (IntKind.i64.wrap ((k_9 : Int) + 1))))) rfl rfl (r_sliceL Try.underlying22 Try.sizeOf3 rfl rfl hb_19.1 hb_19.2) ?_
    generalize (if rc_4 = (Int.toNat (IntKind.i64.wrap ((k_9 : Int) + 1))) then ra_3 else ra_3.map (·.add ((Int.toNat (IntKind.i64.wrap ((k_9 : Int) + 1))) * 1))) = a_20 at *
    refine .ld (d := 24) (v := (.slice a_20 ((r_1.drop (Int.toNat (IntKind.i64.wrap ((k_9 : Int) + 1)))).length) (rc_4 - (Int.toNat (IntKind.i64.wrap ((k_9 : Int) + 1)))))) (congrArg (fun n => Value.slice a_20 n (rc_4 - (Int.toNat (IntKind.i64.wrap ((k_9 : Int) + 1))))) (List.length_drop (i := (Int.toNat (IntKind.i64.wrap ((k_9 : Int) + 1)))) (l := r_1)).symm) ?_
    refine lv (v := (.int .i64 ((r_1.drop (Int.toNat (IntKind.i64.wrap ((k_9 : Int) + 1)))).length : Int))) rfl rfl (r_len Try.underlying22 rfl) ?_
    refine lv (v := (.int .i64 0)) rfl rfl (r_move rfl) ?_
    refine lnil ?_
    refine wblock ?_
    refine wloop (fun n f w_25 => ∃ (col_26 : Col) (k_23 : Nat) (a_28 : Option Addr) (cap_29 : Nat) (l_27 : List (Int × Int)) (l_24 : List Int), n = l_24.length ∧ (r_1.drop (Int.toNat (IntKind.i64.wrap ((k_9 : Int) + 1)))).drop k_23 = l_24 ∧ m_graph_Graph_wanting_L2 p0_g k_9 (m_graph_Graph_wanting_L1 p0_g r_1 l_18) x_17 l_24 l_27 = some r ∧ St w0 (col0 col) col_26 w_25 ∧ GO 85 86 999 col_26 w_25 o0 p0_g ∧ Sl (Rep.int .i64) col_26 w_25 ra_3 rc_4 r_1 ∧ Sl (Rep.int .i64) col_26 w_25 a_20 (rc_4 - (Int.toNat (IntKind.i64.wrap ((k_9 : Int) + 1)))) (r_1.drop (Int.toNat (IntKind.i64.wrap ((k_9 : Int) + 1)))) ∧ Own (Rep.pair (Rep.int .i64) (Rep.int .i64)) 47 2 col_26 w_25 a_28 cap_29 l_27 ∧ f 26 = (.int .i64 (k_23 : Int)) ∧ f 0 = (.pointer (some ⟨o0.g, 0, none⟩)) ∧ f 14 = (.slice ra_3 r_1.length rc_4) ∧ f 15 = (.int .i64 (r_1.length : Int)) ∧ f 16 = (.int .i64 (k_9 : Int)) ∧ f 24 = (.slice a_20 ((r_1.drop (Int.toNat (IntKind.i64.wrap ((k_9 : Int) + 1)))).length) (rc_4 - (Int.toNat (IntKind.i64.wrap ((k_9 : Int) + 1))))) ∧ f 25 = (.int .i64 ((r_1.drop (Int.toNat (IntKind.i64.wrap ((k_9 : Int) + 1)))).length : Int)) ∧ f 5 = (.slice a_28 l_27.length cap_29) ∧ f 6 = (.slice ra_3 r_1.length rc_4) ∧ f 8 = (.int .i64 x_17) ∧ f 1000000 = (enc [])) (r_1.drop (Int.toNat (IntKind.i64.wrap ((k_9 : Int) + 1)))).length ⟨col_12, 0, a_14, cap_15, l_13, (r_1.drop (Int.toNat (IntKind.i64.wrap ((k_9 : Int) + 1)))), rfl, rfl, hm, hst, h0, rh_5, h_22, h_16, rfl, rfl, rfl, rfl, rfl, rfl, rfl, rfl, rfl, rfl, rfl⟩ ?_
    clear hm; intro n f w_25 hI
    obtain ⟨col_26, k_23, a_28, cap_29, l_27, l_24, hn, hl, hm, hst, h0, rh_5, h_22, h_30, hs26, hs0, hs14, hs15, hs16, hs24, hs25, hs5, hs6, hs8, hs1000000⟩ := hI
    subst hn
    refine .ld (d := 26) (v := (.int .i64 (k_23 : Int))) hs26 ?_
    refine .ld (d := 0) (v := (.pointer (some ⟨o0.g, 0, none⟩))) hs0 ?_
    refine .ld (d := 14) (v := (.slice ra_3 r_1.length rc_4)) hs14 ?_
    refine .ld (d := 15) (v := (.int .i64 (r_1.length : Int))) hs15 ?_
    refine .ld (d := 16) (v := (.int .i64 (k_9 : Int))) hs16 ?_
    refine .ld (d := 24) (v := (.slice a_20 ((r_1.drop (Int.toNat (IntKind.i64.wrap ((k_9 : Int) + 1)))).length) (rc_4 - (Int.toNat (IntKind.i64.wrap ((k_9 : Int) + 1)))))) hs24 ?_
    refine .ld (d := 25) (v := (.int .i64 ((r_1.drop (Int.toNat (IntKind.i64.wrap ((k_9 : Int) + 1)))).length : Int))) hs25 ?_
    refine .ld (d := 5) (v := (.slice a_28 l_27.length cap_29)) hs5 ?_
    refine .ld (d := 6) (v := (.slice ra_3 r_1.length rc_4)) hs6 ?_
    refine .ld (d := 8) (v := (.int .i64 x_17)) hs8 ?_
    refine .ld (d := 1000000) (v := (enc [])) hs1000000 ?_
    clear hs26 hs0 hs14 hs15 hs16 hs24 hs25 hs5 hs6 hs8 hs1000000
    cases l_24 with
    | nil =>
      have hk : ¬ ((k_23 : Int) < ((r_1.drop (Int.toNat (IntKind.i64.wrap ((k_9 : Int) + 1)))).length : Int)) := by have := List.drop_eq_nil_iff.1 hl; omega
      have hkb := decide_eq_false hk
      rw [m_graph_Graph_wanting_L2.eq_1] at hm
      refine wseq ?_
      refine wregion ?_
      refine lv (v := (.bool (decide ((k_23 : Int) < ((r_1.drop (Int.toNat (IntKind.i64.wrap ((k_9 : Int) + 1)))).length : Int))))) rfl rfl (r_lss (k_23 : Int) ((r_1.drop (Int.toNat (IntKind.i64.wrap ((k_9 : Int) + 1)))).length : Int) rfl rfl) ?_
      refine lnil ?_
      refine wseq ?_
      refine wcondF (congrArg Value.bool hkb) ?_
      refine wexit (inB_hit ?_)
      refine wregion ?_
      refine lv (v := (.int .i64 (IntKind.i64.wrap ((k_9 : Int) + 1)))) rfl rfl (r_add (k_9 : Int) 1 rfl rfl) ?_
      refine lv (v := (.int .i64 (IntKind.i64.wrap ((k_9 : Int) + 1)))) rfl rfl (r_move rfl) ?_
      refine lnil ?_
      exact ⟨l_18.length, by simp, ⟨col_26, (k_9 + 1), a_28, cap_29, l_27, l_18, rfl, hl2, hm, hst, h0, rh_5, h_30, (congrArg (Value.int .i64) (wrap_succ (Nat.lt_of_lt_of_le hlt rh_5.1.1))), rfl, rfl, rfl, rfl, rfl, rfl⟩⟩
    | cons x_31 l_32 =>
      obtain ⟨hat, hl2, hlt⟩ := drop_get hl
      have hk : (k_23 : Int) < ((r_1.drop (Int.toNat (IntKind.i64.wrap ((k_9 : Int) + 1)))).length : Int) := by omega
      have hkb := decide_eq_true hk
      rw [m_graph_Graph_wanting_L2.eq_2] at hm
      refine wseq ?_
      refine wregion ?_
      refine lv (v := (.bool (decide ((k_23 : Int) < ((r_1.drop (Int.toNat (IntKind.i64.wrap ((k_9 : Int) + 1)))).length : Int))))) rfl rfl (r_lss (k_23 : Int) ((r_1.drop (Int.toNat (IntKind.i64.wrap ((k_9 : Int) + 1)))).length : Int) rfl rfl) ?_
      refine lnil ?_
      refine wseq ?_
      refine wcondT (congrArg Value.bool hkb) ?_
      refine wskip ?_
      refine wseq ?_
      refine Wp.cut (fun f w_33 => ∃ (col_34 : Col) (a_36 : Option Addr) (cap_37 : Nat) (l_35 : List (Int × Int)), m_graph_Graph_wanting_J1 (m_graph_Graph_wanting_L2 p0_g k_9 (m_graph_Graph_wanting_L1 p0_g r_1 l_18) x_17 l_32) l_35 = some r ∧ St w0 (col0 col) col_34 w_33 ∧ GO 85 86 999 col_34 w_33 o0 p0_g ∧ Sl (Rep.int .i64) col_34 w_33 ra_3 rc_4 r_1 ∧ Sl (Rep.int .i64) col_34 w_33 a_20 (rc_4 - (Int.toNat (IntKind.i64.wrap ((k_9 : Int) + 1)))) (r_1.drop (Int.toNat (IntKind.i64.wrap ((k_9 : Int) + 1)))) ∧ Own (Rep.pair (Rep.int .i64) (Rep.int .i64)) 47 2 col_34 w_33 a_36 cap_37 l_35 ∧ f 0 = (.pointer (some ⟨o0.g, 0, none⟩)) ∧ f 14 = (.slice ra_3 r_1.length rc_4) ∧ f 15 = (.int .i64 (r_1.length : Int)) ∧ f 16 = (.int .i64 (k_9 : Int)) ∧ f 24 = (.slice a_20 ((r_1.drop (Int.toNat (IntKind.i64.wrap ((k_9 : Int) + 1)))).length) (rc_4 - (Int.toNat (IntKind.i64.wrap ((k_9 : Int) + 1))))) ∧ f 25 = (.int .i64 ((r_1.drop (Int.toNat (IntKind.i64.wrap ((k_9 : Int) + 1)))).length : Int)) ∧ f 26 = (.int .i64 (k_23 : Int)) ∧ f 5 = (.slice a_36 l_35.length cap_37) ∧ f 6 = (.slice ra_3 r_1.length rc_4) ∧ f 8 = (.int .i64 x_17) ∧ f 1000000 = (enc [])) ?_ ?_
      · intro f w_33 hJ
        obtain ⟨col_34, a_36, cap_37, l_35, hm, hst, h0, rh_5, h_22, h_38, hs0, hs14, hs15, hs16, hs24, hs25, hs26, hs5, hs6, hs8, hs1000000⟩ := hJ
        rw [m_graph_Graph_wanting_J1.eq_1] at hm
        refine .ld (d := 0) (v := (.pointer (some ⟨o0.g, 0, none⟩))) hs0 ?_
        refine .ld (d := 14) (v := (.slice ra_3 r_1.length rc_4)) hs14 ?_
        refine .ld (d := 15) (v := (.int .i64 (r_1.length : Int))) hs15 ?_
        refine .ld (d := 16) (v := (.int .i64 (k_9 : Int))) hs16 ?_
        refine .ld (d := 24) (v := (.slice a_20 ((r_1.drop (Int.toNat (IntKind.i64.wrap ((k_9 : Int) + 1)))).length) (rc_4 - (Int.toNat (IntKind.i64.wrap ((k_9 : Int) + 1)))))) hs24 ?_
        refine .ld (d := 25) (v := (.int .i64 ((r_1.drop (Int.toNat (IntKind.i64.wrap ((k_9 : Int) + 1)))).length : Int))) hs25 ?_
        refine .ld (d := 26) (v := (.int .i64 (k_23 : Int))) hs26 ?_
        refine .ld (d := 5) (v := (.slice a_36 l_35.length cap_37)) hs5 ?_
        refine .ld (d := 6) (v := (.slice ra_3 r_1.length rc_4)) hs6 ?_
        refine .ld (d := 8) (v := (.int .i64 x_17)) hs8 ?_
        refine .ld (d := 1000000) (v := (enc [])) hs1000000 ?_
        clear hs0 hs14 hs15 hs16 hs24 hs25 hs26 hs5 hs6 hs8 hs1000000
        refine wregion ?_
        refine lv (v := (.int .i64 (IntKind.i64.wrap ((k_23 : Int) + 1)))) rfl rfl (r_add (k_23 : Int) 1 rfl rfl) ?_
        refine lv (v := (.int .i64 (IntKind.i64.wrap ((k_23 : Int) + 1)))) rfl rfl (r_move rfl) ?_
        refine lnil ?_
        exact ⟨l_32.length, by simp, ⟨col_34, (k_23 + 1), a_36, cap_37, l_35, l_32, rfl, hl2, hm, hst, h0, rh_5, h_22, h_38, (congrArg (Value.int .i64) (wrap_succ (Nat.lt_of_lt_of_le hlt h_22.1.1))), rfl, rfl, rfl, rfl, rfl, rfl, rfl, rfl, rfl, rfl⟩⟩
      · refine wblock ?_
        refine wseq ?_
        refine wregion ?_
        refine lv (v := (sptr a_20 (Int.toNat (k_23 : Int) * 1))) rfl rfl (r_idx Try.underlying22 Try.sizeOf3 rfl rfl (at?_some hat).1 (at?_some hat).2.1 (h_22.addr hat)) ?_
        refine lv (v := (.int .i64 x_31)) rfl rfl (r_ld Try.isAgg3 rfl (h_22.atInt hat)) ?_
        refine lv (v := (.int .i64 x_31)) rfl rfl (r_assign rfl) ?_
        refine lnil ?_
        refine wseq ?_
        refine wregion ?_
        refine lv (v := (.pointer (some ⟨o0.g, 0, none⟩))) rfl rfl (r_move rfl) ?_
        refine lv (v := (.pointer (some ⟨o0.g, 0, none⟩))) rfl rfl (r_nilCheck rfl) ?_
        refine lv (v := (.pointer ((some (⟨o0.g, 0, none⟩ : Addr)).map (·.add 0)))) rfl rfl (r_fieldAddr (sz := 1) (off := 0) Try.underlying85 rfl Try.sizeOf83 (by decide) rfl rfl ⟨_, _, rfl⟩) ?_
        refine lv (v := (.slice o0.a p0_g.length o0.cap)) rfl rfl (r_ld Try.isAgg83 rfl ((h0.box.atN).nth (q := 0) (v := (.slice o0.a p0_g.length o0.cap)) rfl)) ?_
        refine lv (v := (.int .i64 x_17)) rfl rfl (r_move rfl) ?_
        obtain ⟨row_39, hj_40, hm⟩ := bind_some hm
        obtain ⟨b_41, hb_42, _, hb_43⟩ := h0.blk hj_40
        refine lv (v := (sptr o0.a (Int.toNat x_17 * 1))) rfl rfl (r_idx Try.underlying83 Try.sizeOf86 rfl rfl (at?_some hj_40).1 (at?_some hj_40).2.1 (h0.addr hb_42)) ?_
        refine lv (v := (.map (some b_41))) rfl rfl (r_ld Try.isAgg86 rfl (h0.at1 hb_42)) ?_
        refine lv (v := (.int .i64 x_31)) rfl rfl (r_move rfl) ?_
        refine lv (v := (.bool (gat row_39 x_31))) rfl rfl (r_glookup_g (h0.maps _ _ _ hb_43 (at?_some hj_40).2.2) Try.underlying86 Try.underlying3 Try.zeroValue4 rfl rfl) ?_
        refine lv (v := (.bool (!(gat row_39 x_31)))) rfl rfl (r_not (gat row_39 x_31) rfl) ?_
        refine lnil ?_
        refine wcond (!(gat row_39 x_31)) rfl (fun hb => ?_) (fun hb => ?_)
        · rw [if_pos hb] at hm
          clear hb
          refine wregion ?_
          refine lv (v := (.slice a_28 l_27.length cap_29)) rfl rfl (r_move rfl) ?_
          refine lv (v := (.int .i64 x_17)) rfl rfl (r_move rfl) ?_
          refine lv (v := (.int .i64 x_31)) rfl rfl (r_move rfl) ?_
          refine lv (v := (.agg #[(.int .i64 x_17), (.int .i64 x_31)])) rfl rfl (r_build (l := [_, _]) (qs := [(0, 1), (1, 1)]) Try.underlying47 Try.zeroValue47 ⟨rfl, Try.sizeOf3, rfl, Try.sizeOf3, trivial⟩ rfl) ?_
          refine l_lit (col := col_26) (r := (Rep.pair (Rep.int .i64) (Rep.int .i64))) (xs := [(x_17, x_31)]) [(.agg #[(.int .i64 x_17), (.int .i64 x_31)])] 3 rfl Try.underlying29 el47_53 rfl rfl rfl rfl rfl rfl (by intro v hv; simp only [List.mem_cons, List.not_mem_nil, or_false] at hv; subst hv; rfl) (RowsH.ofF (Rows.consF (r := (Rep.pair (Rep.int .i64) (Rep.int .i64))) (x := (x_17, x_31)) (cs := [(.int .i64 x_17), (.int .i64 x_31)]) (rd_pairI (rd_int .i64 x_17) (rd_int .i64 x_31)) Rows.nil0)) ?_
          intro a_44 w_45 col_46 hg_47 h_48
          replace h0 := h0.gr hg_47
          replace rh_5 := rh_5.gr hg_47
          replace h_22 := h_22.gr hg_47
          replace h_30 := h_30.gr hg_47
          replace hst := hst.grow hg_47
          obtain ⟨hb_49, hm⟩ := chk_some hm
          refine l_appendM (col := col_46) (w := w_45) (r := (Rep.pair (Rep.int .i64) (Rep.int .i64))) (c := 2) (c2 := 2) (xs := l_27) (ys := [(x_17, x_31)]) h_30 (h_48.srcN (NB.pair (NB.int (k := .i64)) (NB.int (k := .i64)))) rfl Try.underlying29 el47_53 rfl rfl rfl hb_49.1 hb_49.2 (by decide) ?_
          intro a_50 cap_51 w_52 col_53 hk_54 h_55
          replace h0 := h0.kpp hk_54 rfl rfl
          replace rh_5 := rh_5.kpp hk_54 rfl
          replace h_22 := h_22.kpp hk_54 rfl
          replace h_48 := h_48.kpp hk_54 rfl rfl
          replace hst := hst.kpp hk_54 rfl rfl
          clear h_30
          refine lv (v := (.slice a_50 ((l_27 ++ [(x_17, x_31)]).length) cap_51)) rfl rfl (r_assign rfl) ?_
          refine lnil ?_
          exact ⟨col_53, a_50, cap_51, (l_27 ++ [(x_17, x_31)]), hm, hst, h0, rh_5, h_22, h_55, rfl, rfl, rfl, rfl, rfl, rfl, rfl, rfl, rfl, rfl, rfl⟩
        · rw [if_neg (by rw [hb]; decide)] at hm
          clear hb
          refine wskip ?_
          exact ⟨col_26, a_28, cap_29, l_27, hm, hst, h0, rh_5, h_22, h_30, rfl, rfl, rfl, rfl, rfl, rfl, rfl, rfl, rfl, rfl, rfl⟩




def m_graph_Graph_Fill (p0_g : List (List Bool)) (p1_a : Int) : Option Int :=
  (m_graph_Graph_wanting p0_g p1_a).bind fun r_1 => some (r_1.length : Int)

set_option maxRecDepth 100000 in
set_option maxHeartbeats 2000000 in
theorem c_graph_Graph_Fill (col : Col) (w0 : World) (qc0 : Nat) (hqqc0 : qc0 ≠ 0) (o0 : GObj) (p0_g : List (List Bool)) (p1_a : Int) (h0 : GO 85 86 qc0 col w0 o0 p0_g) (r : Int) (hm : m_graph_Graph_Fill p0_g p1_a = some r) :
    Calls Try.prog 16 #[(.pointer (some ⟨o0.g, 0, none⟩)), (.int .i64 p1_a)] w0 (fun e w' => e = .returned ((.int .i64 r)) ∧ Below w0.heap.size w0 w') := by
  refine calls_of1 4 (m := 9) (args := [(.pointer (some ⟨o0.g, 0, none⟩)), (.int .i64 p1_a)]) Try.func16 rfl rfl rfl rfl rfl ?_
  rw [m_graph_Graph_Fill.eq_1] at hm
  have hst := St.start col w0
  replace h0 := h0.start0 hqqc0
  refine wseq ?_
  refine wregion ?_
  refine lv (v := (.int .i64 0)) rfl rfl (r_assign rfl) ?_
  refine lnil ?_
  refine wseq ?_
  refine wregion ?_
  refine lv (v := (.pointer (some ⟨o0.g, 0, none⟩))) rfl rfl (r_move rfl) ?_
  refine lv (v := (.int .i64 p1_a)) rfl rfl (r_move rfl) ?_
  obtain ⟨r_1, hr_2, hm⟩ := bind_some hm
  refine lc rfl rfl (r_call2 Try.call53 rfl rfl) (c_graph_Graph_wanting 1 (col0 col) _ 999 (by decide) o0 p0_g p1_a h0 r_1 hr_2) ?_
  rintro _ w_6 ⟨col_8, ra_3, rc_4, rfl, hg_7, rh_5⟩
  refine ⟨_, rfl, ?_⟩
  replace h0 := h0.gr hg_7
  replace hst := hst.grow hg_7
  refine lv (v := (.int .i64 (r_1.length : Int))) rfl rfl (r_len Try.underlying29 rfl) ?_
  refine lv (v := (.int .i64 (r_1.length : Int))) rfl rfl (r_assign rfl) ?_
  refine lnil ?_
  refine wret ?_
  cases hm
  exact ⟨rfl, rfl, hst.below⟩




def m_cmp_isNaN_int (p0_x : Int) : Option Bool :=
  some (!decide (p0_x = p0_x))

set_option maxRecDepth 100000 in
set_option maxHeartbeats 2000000 in
theorem c_cmp_isNaN_int (col : Col) (w0 : World) (p0_x : Int) (r : Bool) (hm : m_cmp_isNaN_int p0_x = some r) :
    Calls Try.prog 111 #[(.int .i64 p0_x)] w0 (fun e w' => e = .returned ((.bool r)) ∧ Below w0.heap.size w0 w') := by
  refine calls_of1 2 (m := 6) (args := [(.int .i64 p0_x)]) Try.func111 rfl rfl rfl rfl rfl ?_
  rw [m_cmp_isNaN_int.eq_1] at hm
  have hst := St.start col w0
  refine wseq ?_
  refine wregion ?_
  refine lv (v := (.bool false)) rfl rfl (r_assign rfl) ?_
  refine lnil ?_
  refine wseq ?_
  refine wregion ?_
  refine lv (v := (.int .i64 p0_x)) rfl rfl (r_move rfl) ?_
  refine lv (v := (.int .i64 p0_x)) rfl rfl (r_move rfl) ?_
  refine lv (v := (.bool (!decide (p0_x = p0_x)))) rfl rfl (r_neq p0_x p0_x rfl rfl) ?_
  refine lv (v := (.bool (!decide (p0_x = p0_x)))) rfl rfl (r_assign rfl) ?_
  refine lnil ?_
  refine wret ?_
  cases hm
  exact ⟨rfl, rfl, hst.below⟩




def m_cmp_Less_int_J1 (v_13 : Bool) : Option Bool :=
  some v_13

def m_cmp_Less_int (p0_x : Int) (p1_y : Int) : Option Bool :=
  (m_cmp_isNaN_int p0_x).bind fun r_14 => if r_14 = true then ((m_cmp_isNaN_int p1_y).bind fun r_19 => if (!r_19) = true then (m_cmp_Less_int_J1 true) else (m_cmp_Less_int_J1 (decide (p0_x < p1_y)))) else (m_cmp_Less_int_J1 (decide (p0_x < p1_y)))

set_option maxRecDepth 100000 in
set_option maxHeartbeats 2000000 in
theorem c_cmp_Less_int (col : Col) (w0 : World) (p0_x : Int) (p1_y : Int) (r : Bool) (hm : m_cmp_Less_int p0_x p1_y = some r) :
    Calls Try.prog 88 #[(.int .i64 p0_x), (.int .i64 p1_y)] w0 (fun e w' => e = .returned ((.bool r)) ∧ Below w0.heap.size w0 w') := by
  refine calls_of1 4 (m := 17) (args := [(.int .i64 p0_x), (.int .i64 p1_y)]) Try.func88 rfl rfl rfl rfl rfl ?_
  rw [m_cmp_Less_int.eq_1] at hm
  have hst := St.start col w0
  refine wseq ?_
  refine wregion ?_
  refine lv (v := (.bool false)) rfl rfl (r_assign rfl) ?_
  refine lnil ?_
  refine wseq ?_
  refine Wp.cut (fun f w_11 => ∃ (col_12 : Col) (v_13 : Bool), m_cmp_Less_int_J1 v_13 = some r ∧ St w0 (col0 col) col_12 w_11 ∧ f 4 = (.bool v_13) ∧ f 1000000 = (enc [])) ?_ ?_
  · intro f w_11 hJ
    obtain ⟨col_12, v_13, hm, hst, hs4, hs1000000⟩ := hJ
    rw [m_cmp_Less_int_J1.eq_1] at hm
    refine .ld (d := 4) (v := (.bool v_13)) hs4 ?_
    refine .ld (d := 1000000) (v := (enc [])) hs1000000 ?_
    clear hs4 hs1000000
    refine wret ?_
    cases hm
    exact ⟨rfl, rfl, hst.below⟩
  · refine wregion ?_
    refine lv (v := (.int .i64 p0_x)) rfl rfl (r_move rfl) ?_
    obtain ⟨r_14, hr_15, hm⟩ := bind_some hm
    refine lc rfl rfl (r_call1 Try.call111 rfl) (c_cmp_isNaN_int (col0 col) _ p0_x r_14 hr_15) ?_
    rintro _ w_16 ⟨rfl, hg_17⟩
    refine ⟨_, rfl, ?_⟩
    replace hg_17 : Grow (col0 col) w0 (col0 col) w_16 := .of_below hg_17
    replace hst := hst.grow hg_17
    refine lv (v := (.bool r_14)) rfl rfl (r_move rfl) ?_
    by_cases hg_18 : r_14 = true
    · rw [if_pos hg_18] at hm
      refine lg (b := r_14) 7 rfl rfl rfl (by rw [hg_18]; rfl) ?_
      refine lv (v := (.int .i64 p1_y)) rfl rfl (r_move rfl) ?_
      refine lg (b := r_14) 7 rfl rfl rfl (by rw [hg_18]; rfl) ?_
      obtain ⟨r_19, hr_20, hm⟩ := bind_some hm
      refine lc rfl rfl (r_call1 Try.call111 rfl) (c_cmp_isNaN_int (col0 col) _ p1_y r_19 hr_20) ?_
      rintro _ w_21 ⟨rfl, hg_22⟩
      refine ⟨_, rfl, ?_⟩
      replace hg_22 : Grow (col0 col) w_16 (col0 col) w_21 := .of_below hg_22
      replace hst := hst.grow hg_22
      refine lg (b := r_14) 7 rfl rfl rfl (by rw [hg_18]; rfl) ?_
      refine lv (v := (.bool (!r_19))) rfl rfl (r_not r_19 rfl) ?_
      refine lv (v := (.bool (!r_19))) rfl rfl (r_pickT (congrArg Value.bool hg_18) rfl) ?_
      refine lv (v := (.bool (!r_19))) rfl rfl (r_move rfl) ?_
      by_cases hg_23 : (!r_19) = true
      · rw [if_pos hg_23] at hm
        refine lp (b := !r_19) 12 rfl rfl rfl rfl (by rw [hg_23]; rfl) ?_
        refine lp (b := !r_19) 12 rfl rfl rfl rfl (by rw [hg_23]; rfl) ?_
        refine lp (b := !r_19) 12 rfl rfl rfl rfl (by rw [hg_23]; rfl) ?_
        refine lv (v := (.bool true)) rfl rfl (r_pickT (congrArg Value.bool hg_23) rfl) ?_
        refine lv (v := (.bool true)) rfl rfl (r_assign rfl) ?_
        refine lnil ?_
        exact ⟨(col0 col), true, hm, hst, rfl, rfl⟩
      · rw [if_neg hg_23] at hm
        replace hg_23 := Bool.eq_false_iff.2 hg_23
        refine lg (b := !r_19) 12 rfl rfl rfl (by rw [hg_23]; rfl) ?_
        refine lv (v := (.int .i64 p0_x)) rfl rfl (r_move rfl) ?_
        refine lg (b := !r_19) 12 rfl rfl rfl (by rw [hg_23]; rfl) ?_
        refine lv (v := (.int .i64 p1_y)) rfl rfl (r_move rfl) ?_
        refine lg (b := !r_19) 12 rfl rfl rfl (by rw [hg_23]; rfl) ?_
        refine lv (v := (.bool (decide (p0_x < p1_y)))) rfl rfl (r_lss p0_x p1_y rfl rfl) ?_
        refine lv (v := (.bool (decide (p0_x < p1_y)))) rfl rfl (r_pickF (congrArg Value.bool hg_23) rfl) ?_
        refine lv (v := (.bool (decide (p0_x < p1_y)))) rfl rfl (r_assign rfl) ?_
        refine lnil ?_
        exact ⟨(col0 col), (decide (p0_x < p1_y)), hm, hst, rfl, rfl⟩
    · rw [if_neg hg_18] at hm
      replace hg_18 := Bool.eq_false_iff.2 hg_18
      refine lp (b := r_14) 7 rfl rfl rfl rfl (by rw [hg_18]; rfl) ?_
      refine lp (b := r_14) 7 rfl rfl rfl rfl (by rw [hg_18]; rfl) ?_
      refine lp (b := r_14) 7 rfl rfl rfl rfl (by rw [hg_18]; rfl) ?_
      refine lv (v := (.bool false)) rfl rfl (r_pickF (congrArg Value.bool hg_18) rfl) ?_
      refine lv (v := (.bool false)) rfl rfl (r_move rfl) ?_
      refine lg (b := false) 12 rfl rfl rfl rfl ?_
      refine lv (v := (.int .i64 p0_x)) rfl rfl (r_move rfl) ?_
      refine lg (b := false) 12 rfl rfl rfl rfl ?_
      refine lv (v := (.int .i64 p1_y)) rfl rfl (r_move rfl) ?_
      refine lg (b := false) 12 rfl rfl rfl rfl ?_
      refine lv (v := (.bool (decide (p0_x < p1_y)))) rfl rfl (r_lss p0_x p1_y rfl rfl) ?_
      refine lv (v := (.bool (decide (p0_x < p1_y)))) rfl rfl (r_pickF rfl rfl) ?_
      refine lv (v := (.bool (decide (p0_x < p1_y)))) rfl rfl (r_assign rfl) ?_
      refine lnil ?_
      exact ⟨(col0 col), (decide (p0_x < p1_y)), hm, hst, rfl, rfl⟩




def m_slices_isNaN_int (p0_x : Int) : Option Bool :=
  some (!decide (p0_x = p0_x))

set_option maxRecDepth 100000 in
set_option maxHeartbeats 2000000 in
theorem c_slices_isNaN_int (col : Col) (w0 : World) (p0_x : Int) (r : Bool) (hm : m_slices_isNaN_int p0_x = some r) :
    Calls Try.prog 89 #[(.int .i64 p0_x)] w0 (fun e w' => e = .returned ((.bool r)) ∧ Below w0.heap.size w0 w') := by
  refine calls_of1 2 (m := 6) (args := [(.int .i64 p0_x)]) Try.func89 rfl rfl rfl rfl rfl ?_
  rw [m_slices_isNaN_int.eq_1] at hm
  have hst := St.start col w0
  refine wseq ?_
  refine wregion ?_
  refine lv (v := (.bool false)) rfl rfl (r_assign rfl) ?_
  refine lnil ?_
  refine wseq ?_
  refine wregion ?_
  refine lv (v := (.int .i64 p0_x)) rfl rfl (r_move rfl) ?_
  refine lv (v := (.int .i64 p0_x)) rfl rfl (r_move rfl) ?_
  refine lv (v := (.bool (!decide (p0_x = p0_x)))) rfl rfl (r_neq p0_x p0_x rfl rfl) ?_
  refine lv (v := (.bool (!decide (p0_x = p0_x)))) rfl rfl (r_assign rfl) ?_
  refine lnil ?_
  refine wret ?_
  cases hm
  exact ⟨rfl, rfl, hst.below⟩




def m_slices_BinarySearch_int_int_J1 (v_27 : Int) (v_28 : Bool) : Option (Int × Bool) :=
  some (v_27, v_28)

def m_slices_BinarySearch_int_int_L1 (N : Nat) (p0_x : (List Int)) (p1_target : Int) : Nat → Int → Int → Option (Int × Bool)
  | 0, _, _ => none
  | n_1 + 1, i_4, j_5 => if (decide (i_4 < j_5)) = true then ((at? p0_x (IntKind.i64.wrap (ishr .u64 (IntKind.u64.wrap (IntKind.i64.wrap (i_4 + j_5))) 1))).bind fun e_6 => (m_cmp_Less_int e_6 p1_target).bind fun r_8 => if r_8 = true then ((m_slices_BinarySearch_int_int_L1 N p0_x p1_target n_1) (IntKind.i64.wrap ((IntKind.i64.wrap (ishr .u64 (IntKind.u64.wrap (IntKind.i64.wrap (i_4 + j_5))) 1)) + 1)) j_5) else ((m_slices_BinarySearch_int_int_L1 N p0_x p1_target n_1) i_4 (IntKind.i64.wrap (ishr .u64 (IntKind.u64.wrap (IntKind.i64.wrap (i_4 + j_5))) 1)))) else (if (decide (i_4 < (p0_x.length : Int))) = true then ((at? p0_x i_4).bind fun e_30 => if (decide (e_30 = p1_target)) = true then (m_slices_BinarySearch_int_int_J1 i_4 true) else ((m_slices_isNaN_int e_30).bind fun r_33 => if r_33 = true then ((m_slices_isNaN_int p1_target).bind fun r_38 => m_slices_BinarySearch_int_int_J1 i_4 r_38) else (m_slices_BinarySearch_int_int_J1 i_4 false))) else (m_slices_BinarySearch_int_int_J1 i_4 false))

def m_slices_BinarySearch_int_int (N : Nat) (p0_x : (List Int)) (p1_target : Int) : Option (Int × Bool) :=
  m_slices_BinarySearch_int_int_L1 N p0_x p1_target N 0 (p0_x.length : Int)

set_option maxRecDepth 100000 in
set_option maxHeartbeats 2000000 in
theorem c_slices_BinarySearch_int_int (N : Nat) (col : Col) (w0 : World) (a0 : Option Addr) (cap0 : Nat) (p0_x : (List Int)) (p1_target : Int) (h0 : Sl (Rep.int .i64) col w0 a0 cap0 p0_x) (r : (Int × Bool)) (hm : m_slices_BinarySearch_int_int N p0_x p1_target = some r) :
    Calls Try.prog 57 #[(.slice a0 p0_x.length cap0), (.int .i64 p1_target)] w0 (fun e w' => e = .returned (.tuple #[(.int .i64 r.1), (.bool r.2)]) ∧ Below w0.heap.size w0 w') := by
  refine calls_of2 4 5 (m := 54) (args := [(.slice a0 p0_x.length cap0), (.int .i64 p1_target)]) Try.func57 rfl rfl rfl rfl rfl ?_
  rw [m_slices_BinarySearch_int_int.eq_1] at hm
  have hst := St.start col w0
  replace h0 := h0.keep (Stay.start col w0)
  refine wseq ?_
  refine wregion ?_
  refine lv (v := (.int .i64 0)) rfl rfl (r_assign rfl) ?_
  refine lv (v := (.bool false)) rfl rfl (r_assign rfl) ?_
  refine lnil ?_
  refine wseq ?_
  refine wregion ?_
  refine lv (v := (.slice a0 p0_x.length cap0)) rfl rfl (r_move rfl) ?_
  refine lv (v := (.int .i64 (p0_x.length : Int))) rfl rfl (r_len Try.underlying22 rfl) ?_
  refine lv (v := (.int .i64 (p0_x.length : Int))) rfl rfl (r_assign rfl) ?_
  refine lnil ?_
  refine wseq ?_
  refine wregion ?_
  refine lv (v := (.int .i64 (p0_x.length : Int))) rfl rfl (r_move rfl) ?_
  refine lv (v := (.int .i64 0)) rfl rfl (r_assign rfl) ?_
  refine lv (v := (.int .i64 (p0_x.length : Int))) rfl rfl (r_assign rfl) ?_
  refine lnil ?_
  refine wseq ?_
  refine wblock ?_
  refine wloop (fun n f w_2 => ∃ (col_3 : Col) (i_4 : Int) (j_5 : Int) (n_1 : Nat), n_1 = n ∧ m_slices_BinarySearch_int_int_L1 N p0_x p1_target n_1 i_4 j_5 = some r ∧ St w0 (col0 col) col_3 w_2 ∧ Sl (Rep.int .i64) col_3 w_2 a0 cap0 p0_x ∧ f 0 = (.slice a0 p0_x.length cap0) ∧ f 1 = (.int .i64 p1_target) ∧ f 6 = (.int .i64 (p0_x.length : Int)) ∧ f 7 = (.int .i64 i_4) ∧ f 8 = (.int .i64 j_5) ∧ f 1000000 = (enc [])) N ⟨(col0 col), 0, (p0_x.length : Int), N, rfl, hm, hst, h0, rfl, rfl, rfl, rfl, rfl, rfl⟩ ?_
  clear hm; intro n f w_2 hI
  obtain ⟨col_3, i_4, j_5, n_1, hn, hm, hst, h0, hs0, hs1, hs6, hs7, hs8, hs1000000⟩ := hI
  subst hn
  refine .ld (d := 0) (v := (.slice a0 p0_x.length cap0)) hs0 ?_
  refine .ld (d := 1) (v := (.int .i64 p1_target)) hs1 ?_
  refine .ld (d := 6) (v := (.int .i64 (p0_x.length : Int))) hs6 ?_
  refine .ld (d := 7) (v := (.int .i64 i_4)) hs7 ?_
  refine .ld (d := 8) (v := (.int .i64 j_5)) hs8 ?_
  refine .ld (d := 1000000) (v := (enc [])) hs1000000 ?_
  clear hs0 hs1 hs6 hs7 hs8 hs1000000
  cases n_1 with
  | zero => rw [m_slices_BinarySearch_int_int_L1.eq_1] at hm; cases hm
  | succ n_1 =>
    rw [m_slices_BinarySearch_int_int_L1.eq_2] at hm
    refine wseq ?_
    refine wseq ?_
    refine wregion ?_
    refine lv (v := (.int .i64 i_4)) rfl rfl (r_move rfl) ?_
    refine lv (v := (.int .i64 j_5)) rfl rfl (r_move rfl) ?_
    refine lv (v := (.bool (decide (i_4 < j_5)))) rfl rfl (r_lss i_4 j_5 rfl rfl) ?_
    refine lnil ?_
    refine wcond (decide (i_4 < j_5)) rfl (fun hb => ?_) (fun hb => ?_)
    · rw [if_pos hb] at hm
      clear hb
      refine wskip ?_
      refine wblock ?_
      refine wseq ?_
      refine wregion ?_
      refine lv (v := (.int .i64 i_4)) rfl rfl (r_move rfl) ?_
      refine lv (v := (.int .i64 j_5)) rfl rfl (r_move rfl) ?_
      refine lv (v := (.int .i64 (IntKind.i64.wrap (i_4 + j_5)))) rfl rfl (r_add i_4 j_5 rfl rfl) ?_
      refine lv (v := (.int .u64 (IntKind.u64.wrap (IntKind.i64.wrap (i_4 + j_5))))) rfl rfl (r_conv (IntKind.i64.wrap (i_4 + j_5)) ⟨_, Try.underlying3⟩ Try.underlying122 rfl) ?_
      refine lv (v := (.int .u64 (ishr .u64 (IntKind.u64.wrap (IntKind.i64.wrap (i_4 + j_5))) 1))) rfl rfl (r_shr (IntKind.u64.wrap (IntKind.i64.wrap (i_4 + j_5))) 1 rfl rfl (by decide)) ?_
      refine lv (v := (.int .i64 (IntKind.i64.wrap (ishr .u64 (IntKind.u64.wrap (IntKind.i64.wrap (i_4 + j_5))) 1)))) rfl rfl (r_conv (ishr .u64 (IntKind.u64.wrap (IntKind.i64.wrap (i_4 + j_5))) 1) ⟨_, Try.underlying122⟩ Try.underlying3 rfl) ?_
      refine lv (v := (.int .i64 (IntKind.i64.wrap (ishr .u64 (IntKind.u64.wrap (IntKind.i64.wrap (i_4 + j_5))) 1)))) rfl rfl (r_assign rfl) ?_
      refine lnil ?_
      refine wseq ?_
      refine wregion ?_
      refine lv (v := (.slice a0 p0_x.length cap0)) rfl rfl (r_move rfl) ?_
      refine lv (v := (.int .i64 (IntKind.i64.wrap (ishr .u64 (IntKind.u64.wrap (IntKind.i64.wrap (i_4 + j_5))) 1)))) rfl rfl (r_move rfl) ?_
      obtain ⟨e_6, hj_7, hm⟩ := bind_some hm
      refine lv (v := (sptr a0 (Int.toNat (IntKind.i64.wrap (ishr .u64 (IntKind.u64.wrap (IntKind.i64.wrap (i_4 + j_5))) 1)) * 1))) rfl rfl (r_idx Try.underlying22 Try.sizeOf3 rfl rfl (at?_some hj_7).1 (at?_some hj_7).2.1 (h0.addr hj_7)) ?_
      refine lv (v := (.int .i64 e_6)) rfl rfl (r_ld Try.isAgg3 rfl (h0.atInt hj_7)) ?_
      refine lv (v := (.int .i64 p1_target)) rfl rfl (r_move rfl) ?_
      obtain ⟨r_8, hr_9, hm⟩ := bind_some hm
      refine lc rfl rfl (r_call2 Try.call88 rfl rfl) (c_cmp_Less_int col_3 _ e_6 p1_target r_8 hr_9) ?_
      rintro _ w_10 ⟨rfl, hg_11⟩
      refine ⟨_, rfl, ?_⟩
      replace hg_11 : Grow col_3 w_2 col_3 w_10 := .of_below hg_11
      replace h0 := h0.gr hg_11
      replace hst := hst.grow hg_11
      refine lnil ?_
      refine wcond (r_8) rfl (fun hb => ?_) (fun hb => ?_)
      · rw [if_pos hb] at hm
        clear hb
        refine wregion ?_
        refine lv (v := (.int .i64 (IntKind.i64.wrap (ishr .u64 (IntKind.u64.wrap (IntKind.i64.wrap (i_4 + j_5))) 1)))) rfl rfl (r_move rfl) ?_
        refine lv (v := (.int .i64 (IntKind.i64.wrap ((IntKind.i64.wrap (ishr .u64 (IntKind.u64.wrap (IntKind.i64.wrap (i_4 + j_5))) 1)) + 1)))) rfl rfl (r_add (IntKind.i64.wrap (ishr .u64 (IntKind.u64.wrap (IntKind.i64.wrap (i_4 + j_5))) 1)) 1 rfl rfl) ?_
        refine lv (v := (.int .i64 (IntKind.i64.wrap ((IntKind.i64.wrap (ishr .u64 (IntKind.u64.wrap (IntKind.i64.wrap (i_4 + j_5))) 1)) + 1)))) rfl rfl (r_assign rfl) ?_
        refine lnil ?_
        exact ⟨n_1, by omega, ⟨col_3, (IntKind.i64.wrap ((IntKind.i64.wrap (ishr .u64 (IntKind.u64.wrap (IntKind.i64.wrap (i_4 + j_5))) 1)) + 1)), j_5, n_1, rfl, hm, hst, h0, rfl, rfl, rfl, rfl, rfl, rfl⟩⟩
      · rw [if_neg (by rw [hb]; decide)] at hm
        clear hb
        refine wregion ?_
        refine lv (v := (.int .i64 (IntKind.i64.wrap (ishr .u64 (IntKind.u64.wrap (IntKind.i64.wrap (i_4 + j_5))) 1)))) rfl rfl (r_move rfl) ?_
        refine lv (v := (.int .i64 (IntKind.i64.wrap (ishr .u64 (IntKind.u64.wrap (IntKind.i64.wrap (i_4 + j_5))) 1)))) rfl rfl (r_assign rfl) ?_
        refine lnil ?_
        exact ⟨n_1, by omega, ⟨col_3, i_4, (IntKind.i64.wrap (ishr .u64 (IntKind.u64.wrap (IntKind.i64.wrap (i_4 + j_5))) 1)), n_1, rfl, hm, hst, h0, rfl, rfl, rfl, rfl, rfl, rfl⟩⟩
    · rw [if_neg (by rw [hb]; decide)] at hm
      clear hb
      refine wexit (inB_hit ?_)
      refine wseq ?_
      refine Wp.cut (fun f w_25 => ∃ (col_26 : Col) (v_27 : Int) (v_28 : Bool), m_slices_BinarySearch_int_int_J1 v_27 v_28 = some r ∧ St w0 (col0 col) col_26 w_25 ∧ f 4 = (.int .i64 v_27) ∧ f 5 = (.bool v_28) ∧ f 1000000 = (enc [])) ?_ ?_
      · intro f w_25 hJ
        obtain ⟨col_26, v_27, v_28, hm, hst, hs4, hs5, hs1000000⟩ := hJ
        rw [m_slices_BinarySearch_int_int_J1.eq_1] at hm
        refine .ld (d := 4) (v := (.int .i64 v_27)) hs4 ?_
        refine .ld (d := 5) (v := (.bool v_28)) hs5 ?_
        refine .ld (d := 1000000) (v := (enc [])) hs1000000 ?_
        clear hs4 hs5 hs1000000
        refine wret ?_
        cases hm
        exact ⟨rfl, rfl, hst.below⟩
      · refine wregion ?_
        refine lv (v := (.int .i64 i_4)) rfl rfl (r_move rfl) ?_
        refine lv (v := (.int .i64 i_4)) rfl rfl (r_move rfl) ?_
        refine lv (v := (.int .i64 (p0_x.length : Int))) rfl rfl (r_move rfl) ?_
        refine lv (v := (.bool (decide (i_4 < (p0_x.length : Int))))) rfl rfl (r_lss i_4 (p0_x.length : Int) rfl rfl) ?_
        refine lv (v := (.bool (decide (i_4 < (p0_x.length : Int))))) rfl rfl (r_move rfl) ?_
        by_cases hg_29 : (decide (i_4 < (p0_x.length : Int))) = true
        · rw [if_pos hg_29] at hm
          refine lg (b := decide (i_4 < (p0_x.length : Int))) 35 rfl rfl rfl (by rw [hg_29]; rfl) ?_
          refine lv (v := (.slice a0 p0_x.length cap0)) rfl rfl (r_move rfl) ?_
          refine lg (b := decide (i_4 < (p0_x.length : Int))) 35 rfl rfl rfl (by rw [hg_29]; rfl) ?_
          refine lv (v := (.int .i64 i_4)) rfl rfl (r_move rfl) ?_
          refine lg (b := decide (i_4 < (p0_x.length : Int))) 35 rfl rfl rfl (by rw [hg_29]; rfl) ?_
          obtain ⟨e_30, hj_31, hm⟩ := bind_some hm
          refine lv (v := (sptr a0 (Int.toNat i_4 * 1))) rfl rfl (r_idx Try.underlying22 Try.sizeOf3 rfl rfl (at?_some hj_31).1 (at?_some hj_31).2.1 (h0.addr hj_31)) ?_
          refine lg (b := decide (i_4 < (p0_x.length : Int))) 35 rfl rfl rfl (by rw [hg_29]; rfl) ?_
          refine lv (v := (.int .i64 e_30)) rfl rfl (r_ld Try.isAgg3 rfl (h0.atInt hj_31)) ?_
          refine lg (b := decide (i_4 < (p0_x.length : Int))) 35 rfl rfl rfl (by rw [hg_29]; rfl) ?_
          refine lv (v := (.int .i64 p1_target)) rfl rfl (r_move rfl) ?_
          refine lg (b := decide (i_4 < (p0_x.length : Int))) 35 rfl rfl rfl (by rw [hg_29]; rfl) ?_
          refine lv (v := (.bool (decide (e_30 = p1_target)))) rfl rfl (r_eql e_30 p1_target rfl rfl) ?_
          refine lg (b := decide (i_4 < (p0_x.length : Int))) 35 rfl rfl rfl (by rw [hg_29]; rfl) ?_
          refine lv (v := (.bool (decide (e_30 = p1_target)))) rfl rfl (r_move rfl) ?_
          by_cases hg_32 : (decide (e_30 = p1_target)) = true
          · rw [if_pos hg_32] at hm
            refine lp (b := decide (e_30 = p1_target)) 42 rfl rfl rfl rfl (by rw [hg_32]; rfl) ?_
            refine lp (b := decide (e_30 = p1_target)) 42 rfl rfl rfl rfl (by rw [hg_32]; rfl) ?_
            refine lp (b := decide (e_30 = p1_target)) 42 rfl rfl rfl rfl (by rw [hg_32]; rfl) ?_
            refine lp (b := decide (e_30 = p1_target)) 42 rfl rfl rfl rfl (by rw [hg_32]; rfl) ?_
            refine lp (b := decide (e_30 = p1_target)) 42 rfl rfl rfl rfl (by rw [hg_32]; rfl) ?_
            refine lp (b := decide (e_30 = p1_target)) 42 rfl rfl rfl rfl (by rw [hg_32]; rfl) ?_
            refine lpU 48 rfl rfl rfl rfl ?_
            refine lpU 48 rfl rfl rfl rfl ?_
            refine lp (b := decide (e_30 = p1_target)) 42 rfl rfl rfl rfl (by rw [hg_32]; rfl) ?_
            refine lg (b := decide (i_4 < (p0_x.length : Int))) 35 rfl rfl rfl (by rw [hg_29]; rfl) ?_
            refine lv (v := (.bool true)) rfl rfl (r_pickT (congrArg Value.bool hg_32) rfl) ?_
            refine lv (v := (.bool true)) rfl rfl (r_pickT (congrArg Value.bool hg_29) rfl) ?_
            refine lv (v := (.int .i64 i_4)) rfl rfl (r_assign rfl) ?_
            refine lv (v := (.bool true)) rfl rfl (r_assign rfl) ?_
            refine lnil ?_
            exact ⟨col_3, i_4, true, hm, hst, rfl, rfl, rfl⟩
          · rw [if_neg hg_32] at hm
            replace hg_32 := Bool.eq_false_iff.2 hg_32
            refine lg (b := decide (e_30 = p1_target)) 42 rfl rfl rfl (by rw [hg_32]; rfl) ?_
            refine lv (v := (.slice a0 p0_x.length cap0)) rfl rfl (r_move rfl) ?_
            refine lg (b := decide (e_30 = p1_target)) 42 rfl rfl rfl (by rw [hg_32]; rfl) ?_
            refine lv (v := (.int .i64 i_4)) rfl rfl (r_move rfl) ?_
            refine lg (b := decide (e_30 = p1_target)) 42 rfl rfl rfl (by rw [hg_32]; rfl) ?_
            refine lv (v := (sptr a0 (Int.toNat i_4 * 1))) rfl rfl (r_idx Try.underlying22 Try.sizeOf3 rfl rfl (at?_some hj_31).1 (at?_some hj_31).2.1 (h0.addr hj_31)) ?_
            refine lg (b := decide (e_30 = p1_target)) 42 rfl rfl rfl (by rw [hg_32]; rfl) ?_
            refine lv (v := (.int .i64 e_30)) rfl rfl (r_ld Try.isAgg3 rfl (h0.atInt hj_31)) ?_
            refine lg (b := decide (e_30 = p1_target)) 42 rfl rfl rfl (by rw [hg_32]; rfl) ?_
            obtain ⟨r_33, hr_34, hm⟩ := bind_some hm
            refine lc rfl rfl (r_call1 Try.call89 rfl) (c_slices_isNaN_int col_3 _ e_30 r_33 hr_34) ?_
            rintro _ w_35 ⟨rfl, hg_36⟩
            refine ⟨_, rfl, ?_⟩
            replace hg_36 : Grow col_3 w_2 col_3 w_35 := .of_below hg_36
            replace hst := hst.grow hg_36
            refine lg (b := decide (e_30 = p1_target)) 42 rfl rfl rfl (by rw [hg_32]; rfl) ?_
            refine lv (v := (.bool r_33)) rfl rfl (r_move rfl) ?_
            by_cases hg_37 : r_33 = true
            · rw [if_pos hg_37] at hm
              refine lg (b := r_33) 48 rfl rfl rfl (by rw [hg_37]; rfl) ?_
              refine lv (v := (.int .i64 p1_target)) rfl rfl (r_move rfl) ?_
              refine lg (b := r_33) 48 rfl rfl rfl (by rw [hg_37]; rfl) ?_
              obtain ⟨r_38, hr_39, hm⟩ := bind_some hm
              refine lc rfl rfl (r_call1 Try.call89 rfl) (c_slices_isNaN_int col_3 _ p1_target r_38 hr_39) ?_
              rintro _ w_40 ⟨rfl, hg_41⟩
              refine ⟨_, rfl, ?_⟩
              replace hg_41 : Grow col_3 w_35 col_3 w_40 := .of_below hg_41
              replace hst := hst.grow hg_41
              refine lg (b := decide (e_30 = p1_target)) 42 rfl rfl rfl (by rw [hg_32]; rfl) ?_
              refine lv (v := (.bool r_38)) rfl rfl (r_pickT (congrArg Value.bool hg_37) rfl) ?_
              refine lg (b := decide (i_4 < (p0_x.length : Int))) 35 rfl rfl rfl (by rw [hg_29]; rfl) ?_
              refine lv (v := (.bool r_38)) rfl rfl (r_pickF (congrArg Value.bool hg_32) rfl) ?_
              refine lv (v := (.bool r_38)) rfl rfl (r_pickT (congrArg Value.bool hg_29) rfl) ?_
              refine lv (v := (.int .i64 i_4)) rfl rfl (r_assign rfl) ?_
              refine lv (v := (.bool r_38)) rfl rfl (r_assign rfl) ?_
              refine lnil ?_
              exact ⟨col_3, i_4, r_38, hm, hst, rfl, rfl, rfl⟩
            · rw [if_neg hg_37] at hm
              replace hg_37 := Bool.eq_false_iff.2 hg_37
              refine lp (b := r_33) 48 rfl rfl rfl rfl (by rw [hg_37]; rfl) ?_
              refine lp (b := r_33) 48 rfl rfl rfl rfl (by rw [hg_37]; rfl) ?_
              refine lg (b := decide (e_30 = p1_target)) 42 rfl rfl rfl (by rw [hg_32]; rfl) ?_
              refine lv (v := (.bool false)) rfl rfl (r_pickF (congrArg Value.bool hg_37) rfl) ?_
              refine lg (b := decide (i_4 < (p0_x.length : Int))) 35 rfl rfl rfl (by rw [hg_29]; rfl) ?_
              refine lv (v := (.bool false)) rfl rfl (r_pickF (congrArg Value.bool hg_32) rfl) ?_
              refine lv (v := (.bool false)) rfl rfl (r_pickT (congrArg Value.bool hg_29) rfl) ?_
              refine lv (v := (.int .i64 i_4)) rfl rfl (r_assign rfl) ?_
              refine lv (v := (.bool false)) rfl rfl (r_assign rfl) ?_
              refine lnil ?_
              exact ⟨col_3, i_4, false, hm, hst, rfl, rfl, rfl⟩
        · rw [if_neg hg_29] at hm
          replace hg_29 := Bool.eq_false_iff.2 hg_29
          refine lp (b := decide (i_4 < (p0_x.length : Int))) 35 rfl rfl rfl rfl (by rw [hg_29]; rfl) ?_
          refine lp (b := decide (i_4 < (p0_x.length : Int))) 35 rfl rfl rfl rfl (by rw [hg_29]; rfl) ?_
          refine lp (b := decide (i_4 < (p0_x.length : Int))) 35 rfl rfl rfl rfl (by rw [hg_29]; rfl) ?_
          refine lp (b := decide (i_4 < (p0_x.length : Int))) 35 rfl rfl rfl rfl (by rw [hg_29]; rfl) ?_
          refine lp (b := decide (i_4 < (p0_x.length : Int))) 35 rfl rfl rfl rfl (by rw [hg_29]; rfl) ?_
          refine lp (b := decide (i_4 < (p0_x.length : Int))) 35 rfl rfl rfl rfl (by rw [hg_29]; rfl) ?_
          refine lp (b := decide (i_4 < (p0_x.length : Int))) 35 rfl rfl rfl rfl (by rw [hg_29]; rfl) ?_
          refine lpU 42 rfl rfl rfl rfl ?_
          refine lpU 42 rfl rfl rfl rfl ?_
          refine lpU 42 rfl rfl rfl rfl ?_
          refine lpU 42 rfl rfl rfl rfl ?_
          refine lpU 42 rfl rfl rfl rfl ?_
          refine lpU 42 rfl rfl rfl rfl ?_
          refine lpU 48 rfl rfl rfl rfl ?_
          refine lpU 48 rfl rfl rfl rfl ?_
          refine lpU 42 rfl rfl rfl rfl ?_
          refine lp (b := decide (i_4 < (p0_x.length : Int))) 35 rfl rfl rfl rfl (by rw [hg_29]; rfl) ?_
          refine lv (v := (.bool false)) rfl rfl (r_pickF (congrArg Value.bool hg_29) rfl) ?_
          refine lv (v := (.int .i64 i_4)) rfl rfl (r_assign rfl) ?_
          refine lv (v := (.bool false)) rfl rfl (r_assign rfl) ?_
          refine lnil ?_
          exact ⟨col_3, i_4, false, hm, hst, rfl, rfl, rfl⟩




def m_graph_Graph_Join_J1 (p0_g : List (List Bool)) (p1_a : Int) (p2_b : Int) (v_19 : Bool) : Option (Bool × List (List Bool)) :=
  if v_19 = true then (some (false, p0_g)) else ((at? p0_g p1_a).bind fun row_20 => (at? p0_g p2_b).bind fun row_25 => chk (0 ≤ p2_b ∧ Int.toNat p2_b < row_20.length) ((some (p0_g.set (Int.toNat p1_a) (rset row_20 p2_b true))).bind fun es_35 => (at? es_35 p2_b).bind fun row_46 => chk (0 ≤ p1_a ∧ Int.toNat p1_a < row_46.length) ((some (es_35.set (Int.toNat p2_b) (rset row_46 p1_a true))).bind fun es_52 => some (true, es_52))))

def m_graph_Graph_Join (p0_g : List (List Bool)) (p1_a : Int) (p2_b : Int) : Option (Bool × List (List Bool)) :=
  (m_graph_Graph_in p0_g p1_a).bind fun r_63 => if (!r_63) = true then (m_graph_Graph_Join_J1 p0_g p1_a p2_b true) else ((m_graph_Graph_in p0_g p2_b).bind fun r_68 => if (!r_68) = true then (m_graph_Graph_Join_J1 p0_g p1_a p2_b true) else (if (decide (p1_a = p2_b)) = true then (m_graph_Graph_Join_J1 p0_g p1_a p2_b true) else ((at? p0_g p1_a).bind fun row_74 => m_graph_Graph_Join_J1 p0_g p1_a p2_b (gat row_74 p2_b))))

set_option maxRecDepth 100000 in
set_option maxHeartbeats 2000000 in
theorem c_graph_Graph_Join (col : Col) (w0 : World) (qc0 : Nat) (hd : dstB [qc0] = true) (o0 : GObj) (p0_g : List (List Bool)) (p1_a : Int) (p2_b : Int) (h0 : GO 85 86 qc0 col w0 o0 p0_g) (r : (Bool × List (List Bool))) (hm : m_graph_Graph_Join p0_g p1_a p2_b = some r) :
    Calls Try.prog 23 #[(.pointer (some ⟨o0.g, 0, none⟩)), (.int .i64 p1_a), (.int .i64 p2_b)] w0 (fun e w' => ∃ (col' : Col), e = .returned ((.bool r.1)) ∧ KeepP (pS [qc0]) col w0 col' w' ∧ GO 85 86 qc0 col' w' o0 r.2) := by
  refine calls_of1 6 (m := 53) (args := [(.pointer (some ⟨o0.g, 0, none⟩)), (.int .i64 p1_a), (.int .i64 p2_b)]) Try.func23 rfl rfl rfl rfl rfl ?_
  rw [m_graph_Graph_Join.eq_1] at hm
  have hst := St.startL (l := [qc0]) rfl col w0
  replace h0 := h0.startL (dst_nz hd 0 rfl) (dst_ix hd 0 rfl)
  refine wseq ?_
  refine wregion ?_
  refine lv (v := (.bool false)) rfl rfl (r_assign rfl) ?_
  refine lnil ?_
  refine wseq ?_
  refine wseq ?_
  refine Wp.cut (fun f w_17 => ∃ (col_18 : Col) (v_19 : Bool), m_graph_Graph_Join_J1 p0_g p1_a p2_b v_19 = some r ∧ St w0 (colL [qc0] col) col_18 w_17 ∧ GO 85 86 440 col_18 w_17 o0 p0_g ∧ f 0 = (.pointer (some ⟨o0.g, 0, none⟩)) ∧ f 1 = (.int .i64 p1_a) ∧ f 2 = (.int .i64 p2_b) ∧ f 32 = (.bool v_19) ∧ f 1000000 = (enc [])) ?_ ?_
  · intro f w_17 hJ
    obtain ⟨col_18, v_19, hm, hst, h0, hs0, hs1, hs2, hs32, hs1000000⟩ := hJ
    rw [m_graph_Graph_Join_J1.eq_1] at hm
    refine .ld (d := 0) (v := (.pointer (some ⟨o0.g, 0, none⟩))) hs0 ?_
    refine .ld (d := 1) (v := (.int .i64 p1_a)) hs1 ?_
    refine .ld (d := 2) (v := (.int .i64 p2_b)) hs2 ?_
    refine .ld (d := 32) (v := (.bool v_19)) hs32 ?_
    refine .ld (d := 1000000) (v := (enc [])) hs1000000 ?_
    clear hs0 hs1 hs2 hs32 hs1000000
    refine wcond (v_19) rfl (fun hb => ?_) (fun hb => ?_)
    · rw [if_pos hb] at hm
      clear hb
      refine wseq ?_
      refine wregion ?_
      refine lv (v := (.bool false)) rfl rfl (r_assign rfl) ?_
      refine lnil ?_
      refine wret ?_
      cases hm
      exact ⟨rfl, colFL w0.heap.size [qc0] col col_18 (fun n => bif Nat.beq n 440 then qc0 else 0), rfl, hst.finL rfl (fun n => bif Nat.beq n 440 then qc0 else 0), hst.finGOL (G := (fun n => bif Nat.beq n 440 then qc0 else 0)) rfl h0 (by decide) (by decide) rfl⟩
    · rw [if_neg (by rw [hb]; decide)] at hm
      clear hb
      refine wskip ?_
      refine wseq ?_
      refine wmix (col := col_18) [(0, 1), (1, 1), (2, 1), (3, 0), (4, 1), (5, 1), (6, 0), (7, 1), (8, 1), (9, 1), (10, 1), (11, 0), (12, 1), (13, 1), (14, 0), (15, 1), (16, 2), (17, 1), (18, 2), (19, 2), (20, 1), (21, 2)] (by kernel_rfl) (by kernel_rfl) ?_
      refine xu (v := (.pointer (some ⟨o0.g, 0, none⟩))) rfl rfl (fun _ => r_move rfl) ?_
      refine xu (v := (.pointer (some ⟨o0.g, 0, none⟩))) rfl rfl (fun _ => r_nilCheck rfl) ?_
      refine xu (v := (.pointer ((some (⟨o0.g, 0, none⟩ : Addr)).map (·.add 0)))) rfl rfl (fun _ => r_fieldAddr (sz := 1) (off := 0) Try.underlying85 rfl Try.sizeOf83 (by decide) rfl rfl ⟨_, _, rfl⟩) ?_
      refine xv (v := (.slice o0.a p0_g.length o0.cap)) rfl rfl (fun _ hC => r_ld Try.isAgg83 rfl (((h0.gr (Grow.of_below (col := col_18) hC.below)).box.atN).nth (q := 0) (v := (.slice o0.a p0_g.length o0.cap)) rfl)) ?_
      refine xu (v := (.int .i64 p1_a)) rfl rfl (fun _ => r_move rfl) ?_
      obtain ⟨row_20, hj_21, hm⟩ := bind_some hm
      obtain ⟨b_22, hb_23, _, hb_24⟩ := h0.blk hj_21
      refine xu (v := (sptr o0.a (Int.toNat p1_a * 1))) rfl rfl (fun _ => r_idx Try.underlying83 Try.sizeOf86 rfl rfl (at?_some hj_21).1 (at?_some hj_21).2.1 (h0.addr hb_23)) ?_
      refine xv (v := (.map (some b_22))) rfl rfl (fun _ hC => r_ld Try.isAgg86 rfl ((h0.gr (Grow.of_below (col := col_18) hC.below)).at1 hb_23)) ?_
      refine xu (v := (.int .i64 p2_b)) rfl rfl (fun _ => r_move rfl) ?_
      refine xu (v := (.pointer (some ⟨o0.g, 0, none⟩))) rfl rfl (fun _ => r_move rfl) ?_
      refine xu (v := (.pointer (some ⟨o0.g, 0, none⟩))) rfl rfl (fun _ => r_nilCheck rfl) ?_
      refine xu (v := (.pointer ((some (⟨o0.g, 0, none⟩ : Addr)).map (·.add 0)))) rfl rfl (fun _ => r_fieldAddr (sz := 1) (off := 0) Try.underlying85 rfl Try.sizeOf83 (by decide) rfl rfl ⟨_, _, rfl⟩) ?_
      refine xv (v := (.slice o0.a p0_g.length o0.cap)) rfl rfl (fun _ hC => r_ld Try.isAgg83 rfl (((h0.gr (Grow.of_below (col := col_18) hC.below)).box.atN).nth (q := 0) (v := (.slice o0.a p0_g.length o0.cap)) rfl)) ?_
      refine xu (v := (.int .i64 p2_b)) rfl rfl (fun _ => r_move rfl) ?_
      obtain ⟨row_25, hj_26, hm⟩ := bind_some hm
      obtain ⟨b_27, hb_28, _, hb_29⟩ := h0.blk hj_26
      refine xu (v := (sptr o0.a (Int.toNat p2_b * 1))) rfl rfl (fun _ => r_idx Try.underlying83 Try.sizeOf86 rfl rfl (at?_some hj_26).1 (at?_some hj_26).2.1 (h0.addr hb_28)) ?_
      refine xv (v := (.map (some b_27))) rfl rfl (fun _ hC => r_ld Try.isAgg86 rfl ((h0.gr (Grow.of_below (col := col_18) hC.below)).at1 hb_28)) ?_
      refine xu (v := (.int .i64 p1_a)) rfl rfl (fun _ => r_move rfl) ?_
      refine xe rfl rfl ?_
      intro w_30 hC0
      have hC : Grow col_18 w_17 col_18 w_30 := .of_below hC0.below
      replace h0 := h0.gr hC
      replace hst := hst.grow hC
      obtain ⟨hb_37, hm⟩ := chk_some hm
      obtain ⟨es_35, hz_36, hm⟩ := bind_some hm
      have hz_36 : es_35 = p0_g.set (Int.toNat p1_a) (rset row_20 p2_b true) := (Option.some.inj hz_36).symm
      refine l_gentry (k := p2_b) h0 (by decide) hb_24 (at?_some hj_21).2.2 hb_37.1 hb_37.2 rfl Try.underlying86 Try.underlying3 Try.zeroValue4 rfl rfl ?_
      intro w_31 v_38 s_39 hk_32 hs_33 h_34
      rw [← hz_36] at h_34
      clear hz_36
      replace hst := hst.kp hk_32 hs_33 (by decide) (by decide)
      clear h0
      refine lnil ⟨fun w' => Grow col_18 w_31 col_18 w', Grow.refl _ _, fun h => absurd h (by decide), ?_⟩
      refine xu (v := (.int .i64 ((s_39 : Nat) : Int))) rfl rfl (fun _ => r_extract rfl rfl) ?_
      refine xe rfl rfl ?_
      intro w_40 hC0
      have hC : Grow col_18 w_31 col_18 w_40 := .of_below hC0.below
      replace h_34 := h_34.gr hC
      replace hst := hst.grow hC
      refine l_gestore h_34 (by decide) hb_24 rfl rfl rfl ?_
      intro w_41 hk_42 hs_43 h_44
      replace hst := hst.kp hk_42 hs_43 (by decide) (by decide)
      clear h_34
      refine lnil ⟨fun w' => Grow col_18 w_41 col_18 w', Grow.refl _ _, fun h => absurd h (by decide), ?_⟩
      refine xe rfl rfl ?_
      intro w_45 hC0
      have hC : Grow col_18 w_41 col_18 w_45 := .of_below hC0.below
      replace h_44 := h_44.gr hC
      replace hst := hst.grow hC
      obtain ⟨row_46, hj_47, hm⟩ := bind_some hm
      obtain ⟨hb_54, hm⟩ := chk_some hm
      obtain ⟨es_52, hz_53, hm⟩ := bind_some hm
      have hz_53 : es_52 = es_35.set (Int.toNat p2_b) (rset row_46 p1_a true) := (Option.some.inj hz_53).symm
      refine l_gentry (k := p1_a) h_44 (by decide) hb_29 (at?_some hj_47).2.2 hb_54.1 hb_54.2 rfl Try.underlying86 Try.underlying3 Try.zeroValue4 rfl rfl ?_
      intro w_48 v_55 s_56 hk_49 hs_50 h_51
      rw [← hz_53] at h_51
      clear hz_53
      replace hst := hst.kp hk_49 hs_50 (by decide) (by decide)
      clear h_44
      refine lnil ⟨fun w' => Grow col_18 w_48 col_18 w', Grow.refl _ _, fun h => absurd h (by decide), ?_⟩
      refine xu (v := (.int .i64 ((s_56 : Nat) : Int))) rfl rfl (fun _ => r_extract rfl rfl) ?_
      refine xe rfl rfl ?_
      intro w_57 hC0
      have hC : Grow col_18 w_48 col_18 w_57 := .of_below hC0.below
      replace h_51 := h_51.gr hC
      replace hst := hst.grow hC
      refine l_gestore h_51 (by decide) hb_29 rfl rfl rfl ?_
      intro w_58 hk_59 hs_60 h_61
      replace hst := hst.kp hk_59 hs_60 (by decide) (by decide)
      clear h_51
      refine lnil ⟨fun w' => Grow col_18 w_58 col_18 w', Grow.refl _ _, fun h => absurd h (by decide), ?_⟩
      refine xnil ?_
      intro w_62 hC
      replace hC : Grow col_18 w_58 col_18 w_62 := .of_below hC.below
      replace h_61 := h_61.gr hC
      replace hst := hst.grow hC
      refine wseq ?_
      refine wregion ?_
      refine lv (v := (.bool true)) rfl rfl (r_assign rfl) ?_
      refine lnil ?_
      refine wret ?_
      cases hm
      exact ⟨rfl, colFL w0.heap.size [qc0] col col_18 (fun n => bif Nat.beq n 440 then qc0 else 0), rfl, hst.finL rfl (fun n => bif Nat.beq n 440 then qc0 else 0), hst.finGOL (G := (fun n => bif Nat.beq n 440 then qc0 else 0)) rfl h_61 (by decide) (by decide) rfl⟩
  · refine wregion ?_
    refine lv (v := (.pointer (some ⟨o0.g, 0, none⟩))) rfl rfl (r_move rfl) ?_
    refine lv (v := (.int .i64 p1_a)) rfl rfl (r_move rfl) ?_
    obtain ⟨r_63, hr_64, hm⟩ := bind_some hm
    refine lc rfl rfl (r_call2 Try.call54 rfl rfl) (c_graph_Graph_in (colL [qc0] col) _ 440 (by decide) o0 p0_g p1_a h0 r_63 hr_64) ?_
    rintro _ w_65 ⟨rfl, hg_66⟩
    refine ⟨_, rfl, ?_⟩
    replace hg_66 : Grow (colL [qc0] col) w0 (colL [qc0] col) w_65 := .of_below hg_66
    replace h0 := h0.gr hg_66
    replace hst := hst.grow hg_66
    refine lv (v := (.bool (!r_63))) rfl rfl (r_not r_63 rfl) ?_
    refine lv (v := (.bool (!r_63))) rfl rfl (r_move rfl) ?_
    by_cases hg_67 : (!r_63) = true
    · rw [if_pos hg_67] at hm
      refine lp (b := !r_63) 11 rfl rfl rfl rfl (by rw [hg_67]; rfl) ?_
      refine lp (b := !r_63) 11 rfl rfl rfl rfl (by rw [hg_67]; rfl) ?_
      refine lp (b := !r_63) 11 rfl rfl rfl rfl (by rw [hg_67]; rfl) ?_
      refine lp (b := !r_63) 11 rfl rfl rfl rfl (by rw [hg_67]; rfl) ?_
      refine lv (v := (.bool true)) rfl rfl (r_pickT (congrArg Value.bool hg_67) rfl) ?_
      refine lv (v := (.bool true)) rfl rfl (r_move rfl) ?_
      refine lp (b := true) 17 rfl rfl rfl rfl rfl ?_
      refine lp (b := true) 17 rfl rfl rfl rfl rfl ?_
      refine lp (b := true) 17 rfl rfl rfl rfl rfl ?_
      refine lv (v := (.bool true)) rfl rfl (r_pickT rfl rfl) ?_
      refine lv (v := (.bool true)) rfl rfl (r_move rfl) ?_
      refine lp (b := true) 22 rfl rfl rfl rfl rfl ?_
      refine lp (b := true) 22 rfl rfl rfl rfl rfl ?_
      refine lp (b := true) 22 rfl rfl rfl rfl rfl ?_
      refine lp (b := true) 22 rfl rfl rfl rfl rfl ?_
      refine lp (b := true) 22 rfl rfl rfl rfl rfl ?_
      refine lp (b := true) 22 rfl rfl rfl rfl rfl ?_
      refine lp (b := true) 22 rfl rfl rfl rfl rfl ?_
      refine lp (b := true) 22 rfl rfl rfl rfl rfl ?_
      refine lp (b := true) 22 rfl rfl rfl rfl rfl ?_
      refine lv (v := (.bool true)) rfl rfl (r_pickT rfl rfl) ?_
      refine lnil ?_
      exact ⟨(colL [qc0] col), true, hm, hst, h0, rfl, rfl, rfl, rfl, rfl⟩
    · rw [if_neg hg_67] at hm
      replace hg_67 := Bool.eq_false_iff.2 hg_67
      refine lg (b := !r_63) 11 rfl rfl rfl (by rw [hg_67]; rfl) ?_
      refine lv (v := (.pointer (some ⟨o0.g, 0, none⟩))) rfl rfl (r_move rfl) ?_
      refine lg (b := !r_63) 11 rfl rfl rfl (by rw [hg_67]; rfl) ?_
      refine lv (v := (.int .i64 p2_b)) rfl rfl (r_move rfl) ?_
      refine lg (b := !r_63) 11 rfl rfl rfl (by rw [hg_67]; rfl) ?_
      obtain ⟨r_68, hr_69, hm⟩ := bind_some hm
      refine lc rfl rfl (r_call2 Try.call54 rfl rfl) (c_graph_Graph_in (colL [qc0] col) _ 440 (by decide) o0 p0_g p2_b h0 r_68 hr_69) ?_
      rintro _ w_70 ⟨rfl, hg_71⟩
      refine ⟨_, rfl, ?_⟩
      replace hg_71 : Grow (colL [qc0] col) w_65 (colL [qc0] col) w_70 := .of_below hg_71
      replace h0 := h0.gr hg_71
      replace hst := hst.grow hg_71
      refine lg (b := !r_63) 11 rfl rfl rfl (by rw [hg_67]; rfl) ?_
      refine lv (v := (.bool (!r_68))) rfl rfl (r_not r_68 rfl) ?_
      refine lv (v := (.bool (!r_68))) rfl rfl (r_pickF (congrArg Value.bool hg_67) rfl) ?_
      refine lv (v := (.bool (!r_68))) rfl rfl (r_move rfl) ?_
      by_cases hg_72 : (!r_68) = true
      · rw [if_pos hg_72] at hm
        refine lp (b := !r_68) 17 rfl rfl rfl rfl (by rw [hg_72]; rfl) ?_
        refine lp (b := !r_68) 17 rfl rfl rfl rfl (by rw [hg_72]; rfl) ?_
        refine lp (b := !r_68) 17 rfl rfl rfl rfl (by rw [hg_72]; rfl) ?_
        refine lv (v := (.bool true)) rfl rfl (r_pickT (congrArg Value.bool hg_72) rfl) ?_
        refine lv (v := (.bool true)) rfl rfl (r_move rfl) ?_
        refine lp (b := true) 22 rfl rfl rfl rfl rfl ?_
        refine lp (b := true) 22 rfl rfl rfl rfl rfl ?_
        refine lp (b := true) 22 rfl rfl rfl rfl rfl ?_
        refine lp (b := true) 22 rfl rfl rfl rfl rfl ?_
        refine lp (b := true) 22 rfl rfl rfl rfl rfl ?_
        refine lp (b := true) 22 rfl rfl rfl rfl rfl ?_
        refine lp (b := true) 22 rfl rfl rfl rfl rfl ?_
        refine lp (b := true) 22 rfl rfl rfl rfl rfl ?_
        refine lp (b := true) 22 rfl rfl rfl rfl rfl ?_
        refine lv (v := (.bool true)) rfl rfl (r_pickT rfl rfl) ?_
        refine lnil ?_
        exact ⟨(colL [qc0] col), true, hm, hst, h0, rfl, rfl, rfl, rfl, rfl⟩
      · rw [if_neg hg_72] at hm
        replace hg_72 := Bool.eq_false_iff.2 hg_72
        refine lg (b := !r_68) 17 rfl rfl rfl (by rw [hg_72]; rfl) ?_
        refine lv (v := (.int .i64 p1_a)) rfl rfl (r_move rfl) ?_
        refine lg (b := !r_68) 17 rfl rfl rfl (by rw [hg_72]; rfl) ?_
        refine lv (v := (.int .i64 p2_b)) rfl rfl (r_move rfl) ?_
        refine lg (b := !r_68) 17 rfl rfl rfl (by rw [hg_72]; rfl) ?_
        refine lv (v := (.bool (decide (p1_a = p2_b)))) rfl rfl (r_eql p1_a p2_b rfl rfl) ?_
        refine lv (v := (.bool (decide (p1_a = p2_b)))) rfl rfl (r_pickF (congrArg Value.bool hg_72) rfl) ?_
        refine lv (v := (.bool (decide (p1_a = p2_b)))) rfl rfl (r_move rfl) ?_
        by_cases hg_73 : (decide (p1_a = p2_b)) = true
        · rw [if_pos hg_73] at hm
          refine lp (b := decide (p1_a = p2_b)) 22 rfl rfl rfl rfl (by rw [hg_73]; rfl) ?_
          refine lp (b := decide (p1_a = p2_b)) 22 rfl rfl rfl rfl (by rw [hg_73]; rfl) ?_
          refine lp (b := decide (p1_a = p2_b)) 22 rfl rfl rfl rfl (by rw [hg_73]; rfl) ?_
          refine lp (b := decide (p1_a = p2_b)) 22 rfl rfl rfl rfl (by rw [hg_73]; rfl) ?_
          refine lp (b := decide (p1_a = p2_b)) 22 rfl rfl rfl rfl (by rw [hg_73]; rfl) ?_
          refine lp (b := decide (p1_a = p2_b)) 22 rfl rfl rfl rfl (by rw [hg_73]; rfl) ?_
          refine lp (b := decide (p1_a = p2_b)) 22 rfl rfl rfl rfl (by rw [hg_73]; rfl) ?_
          refine lp (b := decide (p1_a = p2_b)) 22 rfl rfl rfl rfl (by rw [hg_73]; rfl) ?_
          refine lp (b := decide (p1_a = p2_b)) 22 rfl rfl rfl rfl (by rw [hg_73]; rfl) ?_
          refine lv (v := (.bool true)) rfl rfl (r_pickT (congrArg Value.bool hg_73) rfl) ?_
          refine lnil ?_
          exact ⟨(colL [qc0] col), true, hm, hst, h0, rfl, rfl, rfl, rfl, rfl⟩
        · rw [if_neg hg_73] at hm
          replace hg_73 := Bool.eq_false_iff.2 hg_73
          refine lg (b := decide (p1_a = p2_b)) 22 rfl rfl rfl (by rw [hg_73]; rfl) ?_
          refine lv (v := (.pointer (some ⟨o0.g, 0, none⟩))) rfl rfl (r_move rfl) ?_
          refine lg (b := decide (p1_a = p2_b)) 22 rfl rfl rfl (by rw [hg_73]; rfl) ?_
          refine lv (v := (.pointer (some ⟨o0.g, 0, none⟩))) rfl rfl (r_nilCheck rfl) ?_
          refine lg (b := decide (p1_a = p2_b)) 22 rfl rfl rfl (by rw [hg_73]; rfl) ?_
          refine lv (v := (.pointer ((some (⟨o0.g, 0, none⟩ : Addr)).map (·.add 0)))) rfl rfl (r_fieldAddr (sz := 1) (off := 0) Try.underlying85 rfl Try.sizeOf83 (by decide) rfl rfl ⟨_, _, rfl⟩) ?_
          refine lg (b := decide (p1_a = p2_b)) 22 rfl rfl rfl (by rw [hg_73]; rfl) ?_
          refine lv (v := (.slice o0.a p0_g.length o0.cap)) rfl rfl (r_ld Try.isAgg83 rfl ((h0.box.atN).nth (q := 0) (v := (.slice o0.a p0_g.length o0.cap)) rfl)) ?_
          refine lg (b := decide (p1_a = p2_b)) 22 rfl rfl rfl (by rw [hg_73]; rfl) ?_
          refine lv (v := (.int .i64 p1_a)) rfl rfl (r_move rfl) ?_
          refine lg (b := decide (p1_a = p2_b)) 22 rfl rfl rfl (by rw [hg_73]; rfl) ?_
          obtain ⟨row_74, hj_75, hm⟩ := bind_some hm
          obtain ⟨b_76, hb_77, _, hb_78⟩ := h0.blk hj_75
          refine lv (v := (sptr o0.a (Int.toNat p1_a * 1))) rfl rfl (r_idx Try.underlying83 Try.sizeOf86 rfl rfl (at?_some hj_75).1 (at?_some hj_75).2.1 (h0.addr hb_77)) ?_
          refine lg (b := decide (p1_a = p2_b)) 22 rfl rfl rfl (by rw [hg_73]; rfl) ?_
          refine lv (v := (.map (some b_76))) rfl rfl (r_ld Try.isAgg86 rfl (h0.at1 hb_77)) ?_
          refine lg (b := decide (p1_a = p2_b)) 22 rfl rfl rfl (by rw [hg_73]; rfl) ?_
          refine lv (v := (.int .i64 p2_b)) rfl rfl (r_move rfl) ?_
          refine lg (b := decide (p1_a = p2_b)) 22 rfl rfl rfl (by rw [hg_73]; rfl) ?_
          refine lv (v := (.bool (gat row_74 p2_b))) rfl rfl (r_glookup_g (h0.maps _ _ _ hb_78 (at?_some hj_75).2.2) Try.underlying86 Try.underlying3 Try.zeroValue4 rfl rfl) ?_
          refine lv (v := (.bool (gat row_74 p2_b))) rfl rfl (r_pickF (congrArg Value.bool hg_73) rfl) ?_
          refine lnil ?_
          exact ⟨(colL [qc0] col), (gat row_74 p2_b), hm, hst, h0, rfl, rfl, rfl, rfl, rfl⟩



set_option maxRecDepth 100000 in
theorem el3_17 : ElemOk Try.prog 3 1 8 := ⟨Try.t3, _, rfl, rfl, rfl, rfl, rfl⟩

def m_graph_Graph_Remove_L2 (N : Nat) (p1_a : Int) (r_5 : (List (Int × Int))) (row_13 : List Bool) : List (Int × Int) → (List (List Bool)) → Option ((List Int) × (List (Int × Int)) × List (List Bool))
  | [], g_53 => (m_slices_BinarySearch_int_int N (gkeys row_13) p1_a).bind fun r_57 => (lib_insert (gkeys row_13) r_57.1 [p1_a]).bind fun r_66 => some (r_66, r_5, g_53)
  | x_55 :: l_56, g_53 => (m_graph_Graph_Join g_53 x_55.1 x_55.2).bind fun r_87 => (m_graph_Graph_Remove_L2 N p1_a r_5 row_13 l_56) r_87.2

def m_graph_Graph_Remove_L1 (N : Nat) (p1_a : Int) (r_5 : (List (Int × Int))) (row_13 : List Bool) : List Int → (List (List Bool)) → Option ((List Int) × (List (Int × Int)) × List (List Bool))
  | [], g_34 => (at? g_34 p1_a).bind fun row_38 => (some (g_34.set (Int.toNat p1_a) (List.replicate row_38.length false))).bind fun es_47 => m_graph_Graph_Remove_L2 N p1_a r_5 row_13 r_5 es_47
  | x_36 :: l_37, g_34 => (at? g_34 x_36).bind fun row_93 => (some (g_34.set (Int.toNat x_36) (rset row_93 p1_a false))).bind fun es_102 => (m_graph_Graph_Remove_L1 N p1_a r_5 row_13 l_37) es_102

def m_graph_Graph_Remove (N : Nat) (p0_g : List (List Bool)) (p1_a : Int) : Option ((List Int) × (List (Int × Int)) × List (List Bool)) :=
  (m_graph_Graph_in p0_g p1_a).bind fun r_1 => if (!r_1) = true then (some (([] : List Int), ([] : List (Int × Int)), p0_g)) else ((m_graph_Graph_wanting p0_g p1_a).bind fun r_5 => (at? p0_g p1_a).bind fun row_13 => chk (row_13.length ≤ 1048576) (m_graph_Graph_Remove_L1 N p1_a r_5 row_13 (gkeys row_13) p0_g))

set_option maxRecDepth 100000 in
set_option maxHeartbeats 2000000 in
theorem c_graph_Graph_Remove (N : Nat) (c1 : Nat) (c2 : Nat) (col : Col) (w0 : World) (qc0 : Nat) (hd : dstB [qc0] = true) (o0 : GObj) (p0_g : List (List Bool)) (p1_a : Int) (h0 : GO 85 86 qc0 col w0 o0 p0_g) (r : ((List Int) × (List (Int × Int)) × List (List Bool))) (hm : m_graph_Graph_Remove N p0_g p1_a = some r) :
    Calls Try.prog 17 #[(.pointer (some ⟨o0.g, 0, none⟩)), (.int .i64 p1_a)] w0 (fun e w' => ∃ (col' : Col) (ra1 : Option Addr) (rc2 : Nat) (ra4 : Option Addr) (rc5 : Nat), e = .returned (.tuple #[(.slice ra1 r.1.length rc2), (.slice ra4 r.2.1.length rc5)]) ∧ KeepP (pS [qc0]) col w0 col' w' ∧ Own (Rep.int .i64) 3 c1 col' w' ra1 rc2 r.1 ∧ Own (Rep.pair (Rep.int .i64) (Rep.int .i64)) 47 c2 col' w' ra4 rc5 r.2.1 ∧ GO 85 86 qc0 col' w' o0 r.2.2) := by
  refine calls_of2 4 5 (m := 77) (args := [(.pointer (some ⟨o0.g, 0, none⟩)), (.int .i64 p1_a)]) Try.func17 rfl rfl rfl rfl rfl ?_
  rw [m_graph_Graph_Remove.eq_1] at hm
  have hst := St.startL (l := [qc0]) rfl col w0
  replace h0 := h0.startL (dst_nz hd 0 rfl) (dst_ix hd 0 rfl)
  refine wseq ?_
  refine wregion ?_
  refine lv (v := (.slice none (([] : List Int).length) 0)) rfl rfl (r_assign rfl) ?_
  refine lv (v := (.slice none (([] : List (Int × Int)).length) 0)) rfl rfl (r_assign rfl) ?_
  refine lnil ?_
  refine wseq ?_
  refine wseq ?_
  refine wregion ?_
  refine lv (v := (.pointer (some ⟨o0.g, 0, none⟩))) rfl rfl (r_move rfl) ?_
  refine lv (v := (.int .i64 p1_a)) rfl rfl (r_move rfl) ?_
  obtain ⟨r_1, hr_2, hm⟩ := bind_some hm
  refine lc rfl rfl (r_call2 Try.call54 rfl rfl) (c_graph_Graph_in (colL [qc0] col) _ 440 (by decide) o0 p0_g p1_a h0 r_1 hr_2) ?_
  rintro _ w_3 ⟨rfl, hg_4⟩
  refine ⟨_, rfl, ?_⟩
  replace hg_4 : Grow (colL [qc0] col) w0 (colL [qc0] col) w_3 := .of_below hg_4
  replace h0 := h0.gr hg_4
  replace hst := hst.grow hg_4
  refine lv (v := (.bool (!r_1))) rfl rfl (r_not r_1 rfl) ?_
  refine lnil ?_
  refine wcond (!r_1) rfl (fun hb => ?_) (fun hb => ?_)
  · rw [if_pos hb] at hm
    clear hb
    refine wseq ?_
    refine wregion ?_
    refine lv (v := (.slice none (([] : List Int).length) 0)) rfl rfl (r_assign rfl) ?_
    refine lv (v := (.slice none (([] : List (Int × Int)).length) 0)) rfl rfl (r_assign rfl) ?_
    refine lnil ?_
    refine wret ?_
    cases hm
    exact ⟨rfl, colFL w0.heap.size [qc0] col (colL [qc0] col) (fun n => bif Nat.beq n 440 then qc0 else 0), none, 0, none, 0, rfl, hst.finL rfl (fun n => bif Nat.beq n 440 then qc0 else 0), Own.nil, Own.nil, hst.finGOL (G := (fun n => bif Nat.beq n 440 then qc0 else 0)) rfl h0 (by decide) (by decide) rfl⟩
  · rw [if_neg (by rw [hb]; decide)] at hm
    clear hb
    refine wskip ?_
    refine wseq ?_
    refine wregion ?_
    refine lv (v := (.pointer (some ⟨o0.g, 0, none⟩))) rfl rfl (r_move rfl) ?_
    refine lv (v := (.int .i64 p1_a)) rfl rfl (r_move rfl) ?_
    obtain ⟨r_5, hr_6, hm⟩ := bind_some hm
    refine lc rfl rfl (r_call2 Try.call53 rfl rfl) (c_graph_Graph_wanting 1 (colL [qc0] col) _ 440 (by decide) o0 p0_g p1_a h0 r_5 hr_6) ?_
    rintro _ w_10 ⟨col_12, ra_7, rc_8, rfl, hg_11, rh_9⟩
    refine ⟨_, rfl, ?_⟩
    replace h0 := h0.gr hg_11
    replace hst := hst.grow hg_11
    refine lv (v := (.slice ra_7 r_5.length rc_8)) rfl rfl (r_assign rfl) ?_
    refine lnil ?_
    refine wseq ?_
    refine wregion ?_
    refine lv (v := (.pointer (some ⟨o0.g, 0, none⟩))) rfl rfl (r_move rfl) ?_
    refine lv (v := (.pointer (some ⟨o0.g, 0, none⟩))) rfl rfl (r_nilCheck rfl) ?_
    refine lv (v := (.pointer ((some (⟨o0.g, 0, none⟩ : Addr)).map (·.add 0)))) rfl rfl (r_fieldAddr (sz := 1) (off := 0) Try.underlying85 rfl Try.sizeOf83 (by decide) rfl rfl ⟨_, _, rfl⟩) ?_
    refine lv (v := (.slice o0.a p0_g.length o0.cap)) rfl rfl (r_ld Try.isAgg83 rfl ((h0.box.atN).nth (q := 0) (v := (.slice o0.a p0_g.length o0.cap)) rfl)) ?_
    refine lv (v := (.int .i64 p1_a)) rfl rfl (r_move rfl) ?_
    obtain ⟨row_13, hj_14, hm⟩ := bind_some hm
    obtain ⟨b_15, hb_16, _, hb_17⟩ := h0.blk hj_14
    refine lv (v := (sptr o0.a (Int.toNat p1_a * 1))) rfl rfl (r_idx Try.underlying83 Try.sizeOf86 rfl rfl (at?_some hj_14).1 (at?_some hj_14).2.1 (h0.addr hb_16)) ?_
    refine lv (v := (.map (some b_15))) rfl rfl (r_ld Try.isAgg86 rfl (h0.at1 hb_16)) ?_
    refine lc rfl rfl (r_call1 Try.call56 rfl) (c_keys 2 b_15 col_12 _) ?_
    rintro _ w_18 ⟨col_19, g_20, rfl, hg_21, hb_22⟩
    refine ⟨_, rfl, ?_⟩
    replace h0 := h0.gr hg_21
    replace rh_9 := rh_9.gr hg_21
    replace hst := hst.grow hg_21
    obtain ⟨hc_29, hm⟩ := chk_some hm
    refine lc rfl rfl (r_call1 Try.call55 rfl) (c_sortedKeys 3 2 440 b_15 g_20 col_19 _ row_13 hb_22 (h0.maps _ _ _ hb_17 (at?_some hj_14).2.2) hc_29) ?_
    rintro _ w_23 ⟨col_24, a_25, cap_26, rfl, hg_27, h_28⟩
    refine ⟨_, rfl, ?_⟩
    replace h0 := h0.gr hg_27
    replace rh_9 := rh_9.gr hg_27
    replace hst := hst.grow hg_27
    refine lv (v := (.slice a_25 ((gkeys row_13).length) cap_26)) rfl rfl (r_assign rfl) ?_
    refine lnil ?_
    refine wseq ?_
    refine wseq ?_
    refine wregion ?_
    refine lv (v := (.slice a_25 ((gkeys row_13).length) cap_26)) rfl rfl (r_move rfl) ?_
    refine lv (v := (.int .i64 ((gkeys row_13).length : Int))) rfl rfl (r_len Try.underlying22 rfl) ?_
    refine lv (v := (.int .i64 0)) rfl rfl (r_move rfl) ?_
    refine lnil ?_
    refine wblock ?_
    refine wloop (fun n f w_32 => ∃ (col_33 : Col) (g_34 : List (List Bool)) (k_30 : Nat) (l_31 : List Int), n = l_31.length ∧ (gkeys row_13).drop k_30 = l_31 ∧ m_graph_Graph_Remove_L1 N p1_a r_5 row_13 l_31 g_34 = some r ∧ St w0 (colL [qc0] col) col_33 w_32 ∧ GO 85 86 440 col_33 w_32 o0 g_34 ∧ Own (Rep.int .i64) 3 3 col_33 w_32 a_25 cap_26 (gkeys row_13) ∧ Own (Rep.pair (Rep.int .i64) (Rep.int .i64)) 47 1 col_33 w_32 ra_7 rc_8 r_5 ∧ f 32 = (.int .i64 (k_30 : Int)) ∧ f 0 = (.pointer (some ⟨o0.g, 0, none⟩)) ∧ f 1 = (.int .i64 p1_a) ∧ f 30 = (.slice a_25 ((gkeys row_13).length) cap_26) ∧ f 31 = (.int .i64 ((gkeys row_13).length : Int)) ∧ f 6 = (.slice ra_7 r_5.length rc_8) ∧ f 7 = (.slice a_25 ((gkeys row_13).length) cap_26) ∧ f 1000000 = (enc [])) (gkeys row_13).length ⟨col_24, p0_g, 0, (gkeys row_13), rfl, rfl, hm, hst, h0, h_28, rh_9, rfl, rfl, rfl, rfl, rfl, rfl, rfl, rfl⟩ ?_
    clear hm; intro n f w_32 hI
    obtain ⟨col_33, g_34, k_30, l_31, hn, hl, hm, hst, h_35, h_28, rh_9, hs32, hs0, hs1, hs30, hs31, hs6, hs7, hs1000000⟩ := hI
    subst hn
    refine .ld (d := 32) (v := (.int .i64 (k_30 : Int))) hs32 ?_
    refine .ld (d := 0) (v := (.pointer (some ⟨o0.g, 0, none⟩))) hs0 ?_
    refine .ld (d := 1) (v := (.int .i64 p1_a)) hs1 ?_
    refine .ld (d := 30) (v := (.slice a_25 ((gkeys row_13).length) cap_26)) hs30 ?_
    refine .ld (d := 31) (v := (.int .i64 ((gkeys row_13).length : Int))) hs31 ?_
    refine .ld (d := 6) (v := (.slice ra_7 r_5.length rc_8)) hs6 ?_
    refine .ld (d := 7) (v := (.slice a_25 ((gkeys row_13).length) cap_26)) hs7 ?_
    refine .ld (d := 1000000) (v := (enc [])) hs1000000 ?_
    clear hs32 hs0 hs1 hs30 hs31 hs6 hs7 hs1000000
    cases l_31 with
    | nil =>
      have hk : ¬ ((k_30 : Int) < ((gkeys row_13).length : Int)) := by have := List.drop_eq_nil_iff.1 hl; omega
      have hkb := decide_eq_false hk
      rw [m_graph_Graph_Remove_L1.eq_1] at hm
      refine wseq ?_
      refine wregion ?_
      refine lv (v := (.bool (decide ((k_30 : Int) < ((gkeys row_13).length : Int))))) rfl rfl (r_lss (k_30 : Int) ((gkeys row_13).length : Int) rfl rfl) ?_
      refine lnil ?_
      refine wseq ?_
      refine wcondF (congrArg Value.bool hkb) ?_
      refine wexit (inB_hit ?_)
      refine wseq ?_
      refine wregion ?_
      refine lv (v := (.pointer (some ⟨o0.g, 0, none⟩))) rfl rfl (r_move rfl) ?_
      refine lv (v := (.pointer (some ⟨o0.g, 0, none⟩))) rfl rfl (r_nilCheck rfl) ?_
      refine lv (v := (.pointer ((some (⟨o0.g, 0, none⟩ : Addr)).map (·.add 0)))) rfl rfl (r_fieldAddr (sz := 1) (off := 0) Try.underlying85 rfl Try.sizeOf83 (by decide) rfl rfl ⟨_, _, rfl⟩) ?_
      refine lv (v := (.slice o0.a g_34.length o0.cap)) rfl rfl (r_ld Try.isAgg83 rfl ((h_35.box.atN).nth (q := 0) (v := (.slice o0.a g_34.length o0.cap)) rfl)) ?_
      refine lv (v := (.int .i64 p1_a)) rfl rfl (r_move rfl) ?_
      obtain ⟨row_38, hj_39, hm⟩ := bind_some hm
      obtain ⟨b_40, hb_41, _, hb_42⟩ := h_35.blk hj_39
      refine lv (v := (sptr o0.a (Int.toNat p1_a * 1))) rfl rfl (r_idx Try.underlying83 Try.sizeOf86 rfl rfl (at?_some hj_39).1 (at?_some hj_39).2.1 (h_35.addr hb_41)) ?_
      refine lv (v := (.map (some b_40))) rfl rfl (r_ld Try.isAgg86 rfl (h_35.at1 hb_41)) ?_
      obtain ⟨es_47, hz_48, hm⟩ := bind_some hm
      have hz_48 : es_47 = g_34.set (Int.toNat p1_a) (List.replicate row_38.length false) := (Option.some.inj hz_48).symm
      refine l_gclear h_35 (by decide) hb_42 (at?_some hj_39).2.2 Try.underlying86 rfl ?_
      intro w_43 hk_44 hs_45 h_46
      rw [← hz_48] at h_46
      clear hz_48
      replace rh_9 := rh_9.kp hk_44 (by decide) (by decide)
      replace h_28 := h_28.kp hk_44 (by decide) (by decide)
      replace hst := hst.kp hk_44 hs_45 (by decide) (by decide)
      clear h_35
      refine lnil ?_
      refine wseq ?_
      refine wseq ?_
      refine wregion ?_
      refine lv (v := (.slice ra_7 r_5.length rc_8)) rfl rfl (r_move rfl) ?_
      refine lv (v := (.int .i64 (r_5.length : Int))) rfl rfl (r_len Try.underlying29 rfl) ?_
      refine lv (v := (.int .i64 0)) rfl rfl (r_move rfl) ?_
      refine lnil ?_
      refine wblock ?_
      refine wloop (fun n f w_51 => ∃ (col_52 : Col) (g_53 : List (List Bool)) (k_49 : Nat) (l_50 : List (Int × Int)), n = l_50.length ∧ r_5.drop k_49 = l_50 ∧ m_graph_Graph_Remove_L2 N p1_a r_5 row_13 l_50 g_53 = some r ∧ St w0 (colL [qc0] col) col_52 w_51 ∧ GO 85 86 440 col_52 w_51 o0 g_53 ∧ Own (Rep.pair (Rep.int .i64) (Rep.int .i64)) 47 1 col_52 w_51 ra_7 rc_8 r_5 ∧ Own (Rep.int .i64) 3 3 col_52 w_51 a_25 cap_26 (gkeys row_13) ∧ f 54 = (.int .i64 (k_49 : Int)) ∧ f 0 = (.pointer (some ⟨o0.g, 0, none⟩)) ∧ f 1 = (.int .i64 p1_a) ∧ f 52 = (.slice ra_7 r_5.length rc_8) ∧ f 53 = (.int .i64 (r_5.length : Int)) ∧ f 6 = (.slice ra_7 r_5.length rc_8) ∧ f 7 = (.slice a_25 ((gkeys row_13).length) cap_26) ∧ f 1000000 = (enc [])) r_5.length ⟨col_33, es_47, 0, r_5, rfl, rfl, hm, hst, h_46, rh_9, h_28, rfl, rfl, rfl, rfl, rfl, rfl, rfl, rfl⟩ ?_
      clear hm; intro n f w_51 hI
      obtain ⟨col_52, g_53, k_49, l_50, hn, hl, hm, hst, h_54, rh_9, h_28, hs54, hs0, hs1, hs52, hs53, hs6, hs7, hs1000000⟩ := hI
      subst hn
      refine .ld (d := 54) (v := (.int .i64 (k_49 : Int))) hs54 ?_
      refine .ld (d := 0) (v := (.pointer (some ⟨o0.g, 0, none⟩))) hs0 ?_
      refine .ld (d := 1) (v := (.int .i64 p1_a)) hs1 ?_
      refine .ld (d := 52) (v := (.slice ra_7 r_5.length rc_8)) hs52 ?_
      refine .ld (d := 53) (v := (.int .i64 (r_5.length : Int))) hs53 ?_
      refine .ld (d := 6) (v := (.slice ra_7 r_5.length rc_8)) hs6 ?_
      refine .ld (d := 7) (v := (.slice a_25 ((gkeys row_13).length) cap_26)) hs7 ?_
      refine .ld (d := 1000000) (v := (enc [])) hs1000000 ?_
      clear hs54 hs0 hs1 hs52 hs53 hs6 hs7 hs1000000
      cases l_50 with
      | nil =>
        have hk : ¬ ((k_49 : Int) < (r_5.length : Int)) := by have := List.drop_eq_nil_iff.1 hl; omega
        have hkb := decide_eq_false hk
        rw [m_graph_Graph_Remove_L2.eq_1] at hm
        refine wseq ?_
        refine wregion ?_
        refine lv (v := (.bool (decide ((k_49 : Int) < (r_5.length : Int))))) rfl rfl (r_lss (k_49 : Int) (r_5.length : Int) rfl rfl) ?_
        refine lnil ?_
        refine wseq ?_
        refine wcondF (congrArg Value.bool hkb) ?_
        refine wexit (inB_hit ?_)
        refine wseq ?_
        refine wregion ?_
        refine lv (v := (.slice a_25 ((gkeys row_13).length) cap_26)) rfl rfl (r_move rfl) ?_
        refine lv (v := (.int .i64 p1_a)) rfl rfl (r_move rfl) ?_
        obtain ⟨r_57, hr_58, hm⟩ := bind_some hm
        refine lc rfl rfl (r_call2 Try.call57 rfl rfl) (c_slices_BinarySearch_int_int N (frC 3 col_52) _ a_25 cap_26 (gkeys row_13) p1_a (h_28.toSlF (Froz.int .i64)) r_57 hr_58) ?_
        rintro _ w_59 ⟨rfl, hg_60⟩
        refine ⟨_, rfl, ?_⟩
        replace hg_60 : Grow col_52 w_51 col_52 w_59 := .of_below hg_60
        replace rh_9 := rh_9.gr hg_60
        replace h_28 := h_28.gr hg_60
        replace h_54 := h_54.gr hg_60
        replace hst := hst.grow hg_60
        refine lv (v := (.tuple #[(.int .i64 r_57.1), (.bool r_57.2)])) rfl rfl (r_move rfl) ?_
        refine lv (v := (.int .i64 r_57.1)) rfl rfl (r_extract rfl rfl) ?_
        refine lv (v := (.bool r_57.2)) rfl rfl (r_extract rfl rfl) ?_
        refine lv (v := (.int .i64 r_57.1)) rfl rfl (r_assign rfl) ?_
        refine lv (v := (.bool r_57.2)) rfl rfl (r_assign rfl) ?_
        refine lnil ?_
        refine wseq ?_
        refine wregion ?_
        refine lv (v := (.slice a_25 ((gkeys row_13).length) cap_26)) rfl rfl (r_move rfl) ?_
        refine lv (v := (.int .i64 r_57.1)) rfl rfl (r_move rfl) ?_
        refine lv (v := (.int .i64 p1_a)) rfl rfl (r_move rfl) ?_
        refine l_lit (col := col_52) (r := (Rep.int .i64)) (xs := [p1_a]) [(.int .i64 p1_a)] 4 rfl Try.underlying22 el3_17 rfl rfl rfl rfl rfl rfl (by intro v hv; simp only [List.mem_cons, List.not_mem_nil, or_false] at hv; subst hv; rfl) (RowsH.ofF (Rows.consF (r := (Rep.int .i64)) (x := p1_a) (cs := [(.int .i64 p1_a)]) (rd_int .i64 p1_a) Rows.nil0)) ?_
        intro a_61 w_62 col_63 hg_64 h_65
        replace rh_9 := rh_9.gr hg_64
        replace h_54 := h_54.gr hg_64
        replace h_28 := h_28.gr hg_64
        replace hst := hst.grow hg_64
        obtain ⟨r_66, hr_67, hm⟩ := bind_some hm
        refine lc rfl rfl (r_call3 Try.call58 rfl rfl rfl) (c_insert 3 4 (by decide) (by decide) col_63 _ a_25 cap_26 (gkeys row_13) r_57.1 a_61 1 [p1_a] h_28 h_65 r_66 hr_67) ?_
        rintro _ w_68 ⟨col_69, a_70, cap_71, rfl, hk_72, h_73⟩
        refine ⟨_, rfl, ?_⟩
        replace rh_9 := rh_9.kpp hk_72 rfl rfl
        replace h_54 := h_54.kpp hk_72 rfl rfl
        replace h_65 := h_65.kpp hk_72 rfl rfl
        replace hst := hst.kpp hk_72 rfl rfl
        clear h_28
        refine lv (v := (.slice ra_7 r_5.length rc_8)) rfl rfl (r_move rfl) ?_
        refine lv (v := (.slice a_70 r_66.length cap_71)) rfl rfl (r_assign rfl) ?_
        refine lv (v := (.slice ra_7 r_5.length rc_8)) rfl rfl (r_assign rfl) ?_
        refine lnil ?_
        refine wret ?_
        cases hm
        exact ⟨rfl, colFL w0.heap.size [qc0] col col_69 (fun n => bif Nat.beq n 3 then c1 else bif Nat.beq n 1 then c2 else bif Nat.beq n 440 then qc0 else 0), a_70, cap_71, ra_7, rc_8, rfl, hst.finL rfl (fun n => bif Nat.beq n 3 then c1 else bif Nat.beq n 1 then c2 else bif Nat.beq n 440 then qc0 else 0), hst.finOwnL (g := (fun n => bif Nat.beq n 3 then c1 else bif Nat.beq n 1 then c2 else bif Nat.beq n 440 then qc0 else 0)) rfl h_73 (by decide) (by decide) rfl, hst.finOwnL (g := (fun n => bif Nat.beq n 3 then c1 else bif Nat.beq n 1 then c2 else bif Nat.beq n 440 then qc0 else 0)) rfl rh_9 (by decide) (by decide) rfl, hst.finGOL (G := (fun n => bif Nat.beq n 3 then c1 else bif Nat.beq n 1 then c2 else bif Nat.beq n 440 then qc0 else 0)) rfl h_54 (by decide) (by decide) rfl⟩
      | cons x_55 l_56 =>
        obtain ⟨hat, hl2, hlt⟩ := drop_get hl
        have hk : (k_49 : Int) < (r_5.length : Int) := by omega
        have hkb := decide_eq_true hk
        rw [m_graph_Graph_Remove_L2.eq_2] at hm
        refine wseq ?_
        refine wregion ?_
        refine lv (v := (.bool (decide ((k_49 : Int) < (r_5.length : Int))))) rfl rfl (r_lss (k_49 : Int) (r_5.length : Int) rfl rfl) ?_
        refine lnil ?_
        refine wseq ?_
        refine wcondT (congrArg Value.bool hkb) ?_
        refine wskip ?_
        refine wseq ?_
        refine wblock ?_
        refine wseq ?_
        refine wregion ?_
        refine lv (v := (sptr ra_7 (Int.toNat (k_49 : Int) * 2))) rfl rfl (r_idx Try.underlying29 Try.sizeOf47 rfl rfl (at?_some hat).1 (at?_some hat).2.1 (rh_9.addr hat)) ?_
        obtain ⟨_, hr_74, hA_75⟩ := rh_9.atN hat
        obtain ⟨_, _, rfl, hp_76, hp_77⟩ := hr_74.parts
        obtain rfl := hp_76.int
        obtain rfl := hp_77.int
        refine lv (v := (.agg #[(.int .i64 x_55.1), (.int .i64 x_55.2)])) rfl rfl (r_ldN Try.isAgg47 Try.sizeOf47 rfl rfl hA_75) ?_
        refine l_alloc (col := col_52) (v := (.agg #[(.int .i64 0), (.int .i64 0)])) 5 rfl Try.zeroValue47 ?_
        intro g_78 w_79 col_80 hg_81 hb_82
        replace h_54 := h_54.gr hg_81
        replace rh_9 := rh_9.gr hg_81
        replace h_28 := h_28.gr hg_81
        replace hst := hst.grow hg_81
        replace hb_82 : Box 47 5 col_80 w_79 g_78 #[(.int .i64 0), (.int .i64 0)] := hb_82
        refine l_bstore (v := (.agg #[(.int .i64 x_55.1), (.int .i64 x_55.2)])) hb_82 Try.sizeOf47 rfl rfl (by intro u hu; simp only [Value.cells, List.mem_cons, List.not_mem_nil, or_false] at hu; rcases hu with rfl | rfl <;> rfl) rfl rfl ?_
        intro w_83 hk_84 hs_85 hb_86
        replace h_54 := h_54.kp hk_84 (by decide) (by decide)
        replace rh_9 := rh_9.kp hk_84 (by decide) (by decide)
        replace h_28 := h_28.kp hk_84 (by decide) (by decide)
        replace hst := hst.kp hk_84 hs_85 (by decide) (by decide)
        clear hb_82
        replace hb_86 : Box 47 5 col_80 w_83 g_78 #[(.int .i64 x_55.1), (.int .i64 x_55.2)] := hb_86
        refine lnil ?_
        refine wregion ?_
        refine lv (v := (.pointer (some ⟨o0.g, 0, none⟩))) rfl rfl (r_move rfl) ?_
        refine lv (v := (.pointer ((some (⟨g_78, 0, none⟩ : Addr)).map (·.add 0)))) rfl rfl (r_fieldAddr (sz := 1) (off := 0) Try.underlying47 rfl Try.sizeOf3 (by decide) rfl rfl ⟨_, _, rfl⟩) ?_
        refine lv (v := (.int .i64 x_55.1)) rfl rfl (r_ld Try.isAgg3 rfl ((hb_86.atN).nth (q := 0) (v := (.int .i64 x_55.1)) rfl)) ?_
        refine lv (v := (.pointer ((some (⟨g_78, 0, none⟩ : Addr)).map (·.add 1)))) rfl rfl (r_fieldAddr (sz := 1) (off := 1) Try.underlying47 rfl Try.sizeOf3 (by decide) rfl rfl ⟨_, _, rfl⟩) ?_
        refine lv (v := (.int .i64 x_55.2)) rfl rfl (r_ld Try.isAgg3 rfl ((hb_86.atN).nth (q := 1) (v := (.int .i64 x_55.2)) rfl)) ?_
        obtain ⟨r_87, hr_88, hm⟩ := bind_some hm
        refine lc rfl rfl (r_call3 Try.call23 rfl rfl rfl) (c_graph_Graph_Join col_80 _ 440 rfl o0 g_53 x_55.1 x_55.2 h_54 r_87 hr_88) ?_
        rintro _ w_90 ⟨col_92, rfl, hg_91, oh_89⟩
        refine ⟨_, rfl, ?_⟩
        replace rh_9 := rh_9.kpp hg_91 rfl rfl
        replace h_28 := h_28.kpp hg_91 rfl rfl
        replace hst := hst.kpp hg_91 rfl rfl
        clear h_54
        refine lnil ?_
        refine wregion ?_
        refine lv (v := (.int .i64 (IntKind.i64.wrap ((k_49 : Int) + 1)))) rfl rfl (r_add (k_49 : Int) 1 rfl rfl) ?_
        refine lv (v := (.int .i64 (IntKind.i64.wrap ((k_49 : Int) + 1)))) rfl rfl (r_move rfl) ?_
        refine lnil ?_
        exact ⟨l_56.length, by simp, ⟨col_92, r_87.2, (k_49 + 1), l_56, rfl, hl2, hm, hst, oh_89, rh_9, h_28, (congrArg (Value.int .i64) (wrap_succ (Nat.lt_of_lt_of_le hlt rh_9.len))), rfl, rfl, rfl, rfl, rfl, rfl, rfl⟩⟩
    | cons x_36 l_37 =>
      obtain ⟨hat, hl2, hlt⟩ := drop_get hl
      have hk : (k_30 : Int) < ((gkeys row_13).length : Int) := by omega
      have hkb := decide_eq_true hk
      rw [m_graph_Graph_Remove_L1.eq_2] at hm
      refine wseq ?_
      refine wregion ?_
      refine lv (v := (.bool (decide ((k_30 : Int) < ((gkeys row_13).length : Int))))) rfl rfl (r_lss (k_30 : Int) ((gkeys row_13).length : Int) rfl rfl) ?_
      refine lnil ?_
      refine wseq ?_
      refine wcondT (congrArg Value.bool hkb) ?_
      refine wskip ?_
      refine wseq ?_
      refine wblock ?_
      refine wseq ?_
      refine wregion ?_
      refine lv (v := (sptr a_25 (Int.toNat (k_30 : Int) * 1))) rfl rfl (r_idx Try.underlying22 Try.sizeOf3 rfl rfl (at?_some hat).1 (at?_some hat).2.1 (h_28.addr hat)) ?_
      refine lv (v := (.int .i64 x_36)) rfl rfl (r_ld Try.isAgg3 rfl (h_28.atInt hat)) ?_
      refine lv (v := (.int .i64 x_36)) rfl rfl (r_assign rfl) ?_
      refine lnil ?_
      refine wregion ?_
      refine lv (v := (.pointer (some ⟨o0.g, 0, none⟩))) rfl rfl (r_move rfl) ?_
      refine lv (v := (.pointer (some ⟨o0.g, 0, none⟩))) rfl rfl (r_nilCheck rfl) ?_
      refine lv (v := (.pointer ((some (⟨o0.g, 0, none⟩ : Addr)).map (·.add 0)))) rfl rfl (r_fieldAddr (sz := 1) (off := 0) Try.underlying85 rfl Try.sizeOf83 (by decide) rfl rfl ⟨_, _, rfl⟩) ?_
      refine lv (v := (.slice o0.a g_34.length o0.cap)) rfl rfl (r_ld Try.isAgg83 rfl ((h_35.box.atN).nth (q := 0) (v := (.slice o0.a g_34.length o0.cap)) rfl)) ?_
      refine lv (v := (.int .i64 x_36)) rfl rfl (r_move rfl) ?_
      obtain ⟨row_93, hj_94, hm⟩ := bind_some hm
      obtain ⟨b_95, hb_96, _, hb_97⟩ := h_35.blk hj_94
      refine lv (v := (sptr o0.a (Int.toNat x_36 * 1))) rfl rfl (r_idx Try.underlying83 Try.sizeOf86 rfl rfl (at?_some hj_94).1 (at?_some hj_94).2.1 (h_35.addr hb_96)) ?_
      refine lv (v := (.map (some b_95))) rfl rfl (r_ld Try.isAgg86 rfl (h_35.at1 hb_96)) ?_
      refine lv (v := (.int .i64 p1_a)) rfl rfl (r_move rfl) ?_
      obtain ⟨es_102, hz_103, hm⟩ := bind_some hm
      have hz_103 : es_102 = g_34.set (Int.toNat x_36) (rset row_93 p1_a false) := (Option.some.inj hz_103).symm
      refine l_gdel (k := p1_a) h_35 (by decide) hb_97 (at?_some hj_94).2.2 Try.underlying86 Try.underlying3 rfl rfl ?_
      intro w_98 hk_99 hs_100 h_101
      rw [← hz_103] at h_101
      clear hz_103
      replace h_28 := h_28.kp hk_99 (by decide) (by decide)
      replace rh_9 := rh_9.kp hk_99 (by decide) (by decide)
      replace hst := hst.kp hk_99 hs_100 (by decide) (by decide)
      clear h_35
      refine lnil ?_
      refine wregion ?_
      refine lv (v := (.int .i64 (IntKind.i64.wrap ((k_30 : Int) + 1)))) rfl rfl (r_add (k_30 : Int) 1 rfl rfl) ?_
      refine lv (v := (.int .i64 (IntKind.i64.wrap ((k_30 : Int) + 1)))) rfl rfl (r_move rfl) ?_
      refine lnil ?_
      exact ⟨l_37.length, by simp, ⟨col_33, es_102, (k_30 + 1), l_37, rfl, hl2, hm, hst, h_101, h_28, rh_9, (congrArg (Value.int .i64) (wrap_succ (Nat.lt_of_lt_of_le hlt h_28.len))), rfl, rfl, rfl, rfl, rfl, rfl, rfl⟩⟩




def m_graph_Graph_Chordal_J1 (v_31 : Int) (kk_L2 : (Int → Int → Option Bool)) (next_35 : Int) : Option Bool :=
  kk_L2 (IntKind.i64.wrap (v_31 + 1)) next_35

def m_graph_Graph_Chordal_J2 (N : Nat) (rest_21 : List (List Bool)) (v_23 : Int) (out_24 : List Bool) (kk_L1 : ((List (List Bool)) → Int → (List Bool) → Option Bool)) (v_31 : Int) (next_32 : Int) (kk_L2 : (Int → Int → Option Bool)) (v_45 : Bool) : Option Bool :=
  if v_45 = true then (if (decide (v_31 < 0)) = true then (some false) else ((at? out_24 v_31).bind fun e_46 => (some (out_24.set (Int.toNat v_31) true)).bind fun xs_53 => (m_graph_Graph_Remove N rest_21 v_31).bind fun r_54 => kk_L1 r_54.2.2 (IntKind.i64.wrap (v_23 + 1)) xs_53)) else (m_graph_Graph_Chordal_J1 v_31 kk_L2 next_32)

def m_graph_Graph_Chordal_L2 (N : Nat) (rest_21 : List (List Bool)) (v_23 : Int) (out_24 : List Bool) (kk_L1 : ((List (List Bool)) → Int → (List Bool) → Option Bool)) : Nat → Int → Int → Option Bool
  | 0, _, _ => none
  | n_28 + 1, v_31, next_32 => if (decide (v_31 < (rest_21.length : Int))) = true then ((at? out_24 v_31).bind fun e_66 => if (!e_66) = true then ((m_graph_Graph_Fill rest_21 v_31).bind fun r_69 => m_graph_Graph_Chordal_J2 N rest_21 v_23 out_24 kk_L1 v_31 next_32 (m_graph_Graph_Chordal_L2 N rest_21 v_23 out_24 kk_L1 n_28) (decide (r_69 = 0))) else (m_graph_Graph_Chordal_J2 N rest_21 v_23 out_24 kk_L1 v_31 next_32 (m_graph_Graph_Chordal_L2 N rest_21 v_23 out_24 kk_L1 n_28) false)) else (if (decide (next_32 < 0)) = true then (some false) else ((at? out_24 next_32).bind fun e_73 => (some (out_24.set (Int.toNat next_32) true)).bind fun xs_80 => (m_graph_Graph_Remove N rest_21 next_32).bind fun r_81 => kk_L1 r_81.2.2 (IntKind.i64.wrap (v_23 + 1)) xs_80))

def m_graph_Graph_Chordal_L1 (N : Nat) (p0_g : List (List Bool)) : Nat → (List (List Bool)) → Int → (List Bool) → Option Bool
  | 0, _, _, _ => none
  | n_18 + 1, rest_21, v_23, out_24 => if (decide (v_23 < (p0_g.length : Int))) = true then (m_graph_Graph_Chordal_L2 N rest_21 v_23 out_24 (m_graph_Graph_Chordal_L1 N p0_g n_18) N 0 (-1)) else (some true)

def m_graph_Graph_Chordal (N : Nat) (p0_g : List (List Bool)) : Option Bool :=
  chk (p0_g.length ≤ 1048576) ((m_graph_Graph_Len p0_g).bind fun r_8 => chk ((Int.toNat r_8) * 1 ≤ 281474976710656 ∧ (Int.toNat r_8) ≤ maxLen ∧ 0 ≤ r_8) (m_graph_Graph_Chordal_L1 N p0_g N p0_g 0 (List.replicate (Int.toNat r_8) (false : Bool))))

set_option maxRecDepth 100000 in
set_option maxHeartbeats 2000000 in
theorem c_graph_Graph_Chordal (N : Nat) (col : Col) (w0 : World) (qc0 : Nat) (hqqc0 : qc0 ≠ 0) (o0 : GObj) (p0_g : List (List Bool)) (h0 : GO 85 86 qc0 col w0 o0 p0_g) (r : Bool) (hm : m_graph_Graph_Chordal N p0_g = some r) :
    Calls Try.prog 14 #[(.pointer (some ⟨o0.g, 0, none⟩))] w0 (fun e w' => e = .returned ((.bool r)) ∧ Below w0.heap.size w0 w') := by
  refine calls_of1 2 (m := 76) (args := [(.pointer (some ⟨o0.g, 0, none⟩))]) Try.func14 rfl rfl rfl rfl rfl ?_
  rw [m_graph_Graph_Chordal.eq_1] at hm
  have hst := St.start col w0
  replace h0 := h0.start0 hqqc0
  refine wseq ?_
  refine wregion ?_
  refine lv (v := (.bool false)) rfl rfl (r_assign rfl) ?_
  refine lnil ?_
  obtain ⟨hb_1, hm⟩ := chk_some hm
  refine wseq ?_
  refine wregion ?_
  refine lv (v := (.pointer (some ⟨o0.g, 0, none⟩))) rfl rfl (r_move rfl) ?_
  refine lv (v := (.pointer (some ⟨o0.g, 0, none⟩))) rfl rfl (r_nilCheck rfl) ?_
  refine lv (v := (.pointer ((some (⟨o0.g, 0, none⟩ : Addr)).map (·.add 0)))) rfl rfl (r_fieldAddr (sz := 1) (off := 0) Try.underlying85 rfl Try.sizeOf83 (by decide) rfl rfl ⟨_, _, rfl⟩) ?_
  refine lv (v := (.slice o0.a p0_g.length o0.cap)) rfl rfl (r_ld Try.isAgg83 rfl (h0.box.atN.nth (q := 0) (v := (.slice o0.a p0_g.length o0.cap)) rfl)) ?_
  refine lv (v := (.int .i64 (p0_g.length : Int))) rfl rfl (r_len Try.underlying83 rfl) ?_
  refine l_make (col := (col0 col)) (w := w0) (r := Rep.mref) (n := p0_g.length) (x0 := none) 2 rfl Try.underlying83 Try.t86 rfl rfl rfl rfl rfl rfl rfl (show p0_g.length * 8 ≤ 281474976710656 by omega) (by simp only [maxLen]; omega) ⟨rfl, rfl⟩ ?_
  intro a_2 w_a col_a hg_a hR
  replace hst := hst.grow hg_a
  replace h0 := h0.gr hg_a
  refine lv (v := .agg #[.slice a_2 (List.replicate p0_g.length (none : Option Nat)).length p0_g.length]) rfl rfl (r_build (l := [_]) (qs := [(0, 1)]) Try.underlying85 Try.zeroValue85 ⟨rfl, Try.sizeOf83, trivial⟩ rfl) ?_
  refine l_box (col := col_a) (v := .agg #[.slice a_2 (List.replicate p0_g.length (none : Option Nat)).length p0_g.length]) 1 rfl rfl ?_
  intro g_3 w_b col_b hg_b hB
  replace hst := hst.grow hg_b
  replace h0 := h0.gr hg_b
  replace hR := hR.gr hg_b
  replace hB : Box 85 1 col_b w_b g_3 #[(.slice a_2 p0_g.length p0_g.length)] := by rw [List.length_replicate] at hB; exact hB
  refine lv (v := (.pointer (some ⟨g_3, 0, none⟩))) rfl rfl (r_assign rfl) ?_
  refine lnil ?_
  refine wseq ?_
  refine wseq ?_
  refine wregion ?_
  refine lv (v := (.pointer (some ⟨o0.g, 0, none⟩))) rfl rfl (r_move rfl) ?_
  refine lv (v := (.pointer (some ⟨o0.g, 0, none⟩))) rfl rfl (r_nilCheck rfl) ?_
  refine lv (v := (.pointer ((some (⟨o0.g, 0, none⟩ : Addr)).map (·.add 0)))) rfl rfl (r_fieldAddr (sz := 1) (off := 0) Try.underlying85 rfl Try.sizeOf83 (by decide) rfl rfl ⟨_, _, rfl⟩) ?_
  refine lv (v := (.slice o0.a p0_g.length o0.cap)) rfl rfl (r_ld Try.isAgg83 rfl (h0.box.atN.nth (q := 0) (v := (.slice o0.a p0_g.length o0.cap)) rfl)) ?_
  refine lv (v := (.int .i64 (p0_g.length : Int))) rfl rfl (r_len Try.underlying83 rfl) ?_
  refine lv (v := (.int .i64 0)) rfl rfl (r_move rfl) ?_
  refine lnil ?_
  refine wblock ?_
  refine wloop (fun n f w => ∃ (col' : Col) (k_5 : Nat) (bs_4 : List Nat), k_5 + n = p0_g.length ∧ bs_4.length = k_5 ∧ bs_4.Nodup ∧ St w0 (col0 col) col' w ∧ GO 85 86 999 col' w o0 p0_g ∧ Box 85 1 col' w g_3 #[(.slice a_2 p0_g.length p0_g.length)] ∧ Own Rep.mref 86 2 col' w a_2 p0_g.length (bs_4.map some ++ List.replicate n none) ∧ (∀ (i b : Nat) (row : List Bool), bs_4[i]? = some b → p0_g[i]? = some row → MapB 3 col' w b row) ∧ f 22 = (.int .i64 (k_5 : Int)) ∧ f 21 = (.int .i64 (p0_g.length : Int)) ∧ f 20 = (.slice o0.a p0_g.length o0.cap) ∧ f 3 = (.pointer (some ⟨g_3, 0, none⟩)) ∧ f 0 = (.pointer (some ⟨o0.g, 0, none⟩)) ∧ f 1000000 = (enc [])) p0_g.length ⟨col_b, 0, [], by omega, rfl, by simp, hst, h0, hB, hR, by simp, rfl, rfl, rfl, rfl, rfl, rfl⟩ ?_
  clear hst h0 hB hR
  intro n f w_l hI
  obtain ⟨col_l, k_5, bs_4, hk, hbl, hnd, hst, h0, hB, hR, hMs, hs22, hs21, hs20, hs3, hs0, hs1000000⟩ := hI
  refine .ld (d := 22) (v := (.int .i64 (k_5 : Int))) hs22 ?_
  refine .ld (d := 21) (v := (.int .i64 (p0_g.length : Int))) hs21 ?_
  refine .ld (d := 20) (v := (.slice o0.a p0_g.length o0.cap)) hs20 ?_
  refine .ld (d := 3) (v := (.pointer (some ⟨g_3, 0, none⟩))) hs3 ?_
  refine .ld (d := 0) (v := (.pointer (some ⟨o0.g, 0, none⟩))) hs0 ?_
  refine .ld (d := 1000000) (v := (enc [])) hs1000000 ?_
  clear hs22 hs21 hs20 hs3 hs0 hs1000000
  refine wseq ?_
  refine wregion ?_
  refine lv (v := (.bool (decide ((k_5 : Int) < (p0_g.length : Int))))) rfl rfl (r_lss (k_5 : Int) (p0_g.length : Int) rfl rfl) ?_
  refine lnil ?_
  refine wseq ?_
  cases n with
  | zero =>
    have hkb : decide ((k_5 : Int) < (p0_g.length : Int)) = false := decide_eq_false (by omega)
    refine wcondF (congrArg Value.bool hkb) ?_
    refine wexit (inB_hit ?_)
    have hk0 : k_5 = p0_g.length := by omega
    rw [List.replicate_zero, List.append_nil] at hR
    replace hst := hst.recol 2 1 (by decide) (by decide)
    replace h0 := h0.recol 2 1 (by decide)
    replace hB := hB.recol 2 1 (by decide)
    replace hR := hR.recolSelf 1 (by decide)
    replace hMs := fun i b row h1 h2 => (hMs i b row h1 h2).recol 2 1 (by decide)
    replace hst := hst.recol 3 1 (by decide) (by decide)
    replace h0 := h0.recol 3 1 (by decide)
    replace hB := hB.recol 3 1 (by decide)
    replace hR := hR.recol 3 1 (by decide)
    replace hMs := fun i b row h1 h2 => (hMs i b row h1 h2).recolSelf 1
    have hN_7 : GO 85 86 1 (rcC 3 1 (rcC 2 1 col_l)) w_l (GObj.mk g_3 a_2 p0_g.length bs_4) p0_g := ⟨hB, hR, hbl.trans hk0, hnd, h0.sq, hMs⟩
    clear hB hR hMs
    refine wseq ?_
    refine wregion ?_
    refine lv (v := (.pointer (some ⟨o0.g, 0, none⟩))) rfl rfl (r_move rfl) ?_
    obtain ⟨r_8, hr_9, hm⟩ := bind_some hm
    refine lc rfl rfl (r_call1 Try.call15 rfl) (c_graph_Graph_Len (rcC 3 1 (rcC 2 1 col_l)) _ 999 (by decide) o0 p0_g h0 r_8 hr_9) ?_
    rintro _ w_10 ⟨rfl, hg_11⟩
    refine ⟨_, rfl, ?_⟩
    replace hg_11 : Grow (rcC 3 1 (rcC 2 1 col_l)) w_l (rcC 3 1 (rcC 2 1 col_l)) w_10 := .of_below hg_11
    replace h0 := h0.gr hg_11
    replace hN_7 := hN_7.gr hg_11
    replace hst := hst.grow hg_11
    obtain ⟨hb_12, hm⟩ := chk_some hm
    refine l_make (col := (rcC 3 1 (rcC 2 1 col_l))) (w := w_10) (r := Rep.bool) (n := (Int.toNat r_8)) (x0 := false) 5 rfl Try.underlying26 Try.t4 rfl rfl rfl rfl rfl (congrArg (Value.int _) (Int.toNat_of_nonneg hb_12.2.2).symm) (congrArg (Value.int _) (Int.toNat_of_nonneg hb_12.2.2).symm) hb_12.1 hb_12.2.1 (rd_bool false) ?_
    intro a_13 w_14 col_15 hg_16 h_17
    replace h0 := h0.gr hg_16
    replace hN_7 := hN_7.gr hg_16
    replace hst := hst.grow hg_16
    refine lv (v := (.slice a_13 ((List.replicate (Int.toNat r_8) (false : Bool)).length) (Int.toNat r_8))) rfl rfl (r_assign rfl) ?_
    refine lnil ?_
    refine wseq ?_
    refine wseq ?_
    refine wregion ?_
    refine lv (v := (.pointer (some ⟨o0.g, 0, none⟩))) rfl rfl (r_move rfl) ?_
    refine lv (v := (.pointer (some ⟨o0.g, 0, none⟩))) rfl rfl (r_nilCheck rfl) ?_
    refine lv (v := (.pointer ((some (⟨o0.g, 0, none⟩ : Addr)).map (·.add 0)))) rfl rfl (r_fieldAddr (sz := 1) (off := 0) Try.underlying85 rfl Try.sizeOf83 (by decide) rfl rfl ⟨_, _, rfl⟩) ?_
    refine lv (v := (.slice o0.a p0_g.length o0.cap)) rfl rfl (r_ld Try.isAgg83 rfl ((h0.box.atN).nth (q := 0) (v := (.slice o0.a p0_g.length o0.cap)) rfl)) ?_
    refine lv (v := (.int .i64 (p0_g.length : Int))) rfl rfl (r_len Try.underlying83 rfl) ?_
    refine lv (v := (.int .i64 0)) rfl rfl (r_move rfl) ?_
    refine lnil ?_
    refine wblock ?_
    refine wloop (fun n f w_19 => ∃ (col_20 : Col) (rest_21 : List (List Bool)) (v_23 : Int) (a_25 : Option Addr) (cap_26 : Nat) (out_24 : List Bool) (n_18 : Nat), n_18 = n ∧ m_graph_Graph_Chordal_L1 N p0_g n_18 rest_21 v_23 out_24 = some r ∧ St w0 (col0 col) col_20 w_19 ∧ GO 85 86 1 col_20 w_19 (GObj.mk g_3 a_2 p0_g.length bs_4) rest_21 ∧ Own Rep.bool 4 5 col_20 w_19 a_25 cap_26 out_24 ∧ f 3 = (.pointer (some ⟨(GObj.mk g_3 a_2 p0_g.length bs_4).g, 0, none⟩)) ∧ f 43 = (.int .i64 (p0_g.length : Int)) ∧ f 44 = (.int .i64 v_23) ∧ f 6 = (.slice a_25 out_24.length cap_26) ∧ f 1000000 = (enc [])) N ⟨col_15, p0_g, 0, a_13, (Int.toNat r_8), (List.replicate (Int.toNat r_8) (false : Bool)), N, rfl, hm, hst, hN_7, h_17, rfl, rfl, rfl, rfl, rfl⟩ ?_
    clear hm; intro n f w_19 hI
    obtain ⟨col_20, rest_21, v_23, a_25, cap_26, out_24, n_18, hn, hm, hst, h_22, h_27, hs3, hs43, hs44, hs6, hs1000000⟩ := hI
    subst hn
    refine .ld (d := 3) (v := (.pointer (some ⟨(GObj.mk g_3 a_2 p0_g.length bs_4).g, 0, none⟩))) hs3 ?_
    refine .ld (d := 43) (v := (.int .i64 (p0_g.length : Int))) hs43 ?_
    refine .ld (d := 44) (v := (.int .i64 v_23)) hs44 ?_
    refine .ld (d := 6) (v := (.slice a_25 out_24.length cap_26)) hs6 ?_
    refine .ld (d := 1000000) (v := (enc [])) hs1000000 ?_
    clear hs3 hs43 hs44 hs6 hs1000000
    cases n_18 with
    | zero => rw [m_graph_Graph_Chordal_L1.eq_1] at hm; cases hm
    | succ n_18 =>
      rw [m_graph_Graph_Chordal_L1.eq_2] at hm
      refine wseq ?_
      refine wregion ?_
      refine lv (v := (.bool (decide (v_23 < (p0_g.length : Int))))) rfl rfl (r_lss v_23 (p0_g.length : Int) rfl rfl) ?_
      refine lnil ?_
      refine wseq ?_
      refine wcond (decide (v_23 < (p0_g.length : Int))) rfl (fun hb => ?_) (fun hb => ?_)
      · rw [if_pos hb] at hm
        clear hb
        refine wskip ?_
        refine wseq ?_
        refine wblock ?_
        refine wseq ?_
        refine wregion ?_
        refine lv (v := (.int .i64 (-1))) rfl rfl (r_assign rfl) ?_
        refine lnil ?_
        refine wseq ?_
        refine wseq ?_
        refine wregion ?_
        refine lv (v := (.pointer (some ⟨(GObj.mk g_3 a_2 p0_g.length bs_4).g, 0, none⟩))) rfl rfl (r_move rfl) ?_
        refine lv (v := (.pointer (some ⟨(GObj.mk g_3 a_2 p0_g.length bs_4).g, 0, none⟩))) rfl rfl (r_nilCheck rfl) ?_
        refine lv (v := (.pointer ((some (⟨(GObj.mk g_3 a_2 p0_g.length bs_4).g, 0, none⟩ : Addr)).map (·.add 0)))) rfl rfl (r_fieldAddr (sz := 1) (off := 0) Try.underlying85 rfl Try.sizeOf83 (by decide) rfl rfl ⟨_, _, rfl⟩) ?_
        refine lv (v := (.slice (GObj.mk g_3 a_2 p0_g.length bs_4).a rest_21.length (GObj.mk g_3 a_2 p0_g.length bs_4).cap)) rfl rfl (r_ld Try.isAgg83 rfl ((h_22.box.atN).nth (q := 0) (v := (.slice (GObj.mk g_3 a_2 p0_g.length bs_4).a rest_21.length (GObj.mk g_3 a_2 p0_g.length bs_4).cap)) rfl)) ?_
        refine lv (v := (.int .i64 (rest_21.length : Int))) rfl rfl (r_len Try.underlying83 rfl) ?_
        refine lv (v := (.int .i64 0)) rfl rfl (r_move rfl) ?_
        refine lnil ?_
        refine wblock ?_
        refine wloop (fun n f w_29 => ∃ (col_30 : Col) (v_31 : Int) (next_32 : Int) (n_28 : Nat), n_28 = n ∧ m_graph_Graph_Chordal_L2 N rest_21 v_23 out_24 (m_graph_Graph_Chordal_L1 N p0_g n_18) n_28 v_31 next_32 = some r ∧ St w0 (col0 col) col_30 w_29 ∧ GO 85 86 1 col_30 w_29 (GObj.mk g_3 a_2 p0_g.length bs_4) rest_21 ∧ Own Rep.bool 4 5 col_30 w_29 a_25 cap_26 out_24 ∧ f 3 = (.pointer (some ⟨(GObj.mk g_3 a_2 p0_g.length bs_4).g, 0, none⟩)) ∧ f 43 = (.int .i64 (p0_g.length : Int)) ∧ f 44 = (.int .i64 v_23) ∧ f 50 = (.int .i64 (rest_21.length : Int)) ∧ f 51 = (.int .i64 v_31) ∧ f 6 = (.slice a_25 out_24.length cap_26) ∧ f 7 = (.int .i64 next_32) ∧ f 1000000 = (enc [])) N ⟨col_20, 0, (-1), N, rfl, hm, hst, h_22, h_27, rfl, rfl, rfl, rfl, rfl, rfl, rfl, rfl⟩ ?_
        clear hm; intro n f w_29 hI
        obtain ⟨col_30, v_31, next_32, n_28, hn, hm, hst, h_22, h_27, hs3, hs43, hs44, hs50, hs51, hs6, hs7, hs1000000⟩ := hI
        subst hn
        refine .ld (d := 3) (v := (.pointer (some ⟨(GObj.mk g_3 a_2 p0_g.length bs_4).g, 0, none⟩))) hs3 ?_
        refine .ld (d := 43) (v := (.int .i64 (p0_g.length : Int))) hs43 ?_
        refine .ld (d := 44) (v := (.int .i64 v_23)) hs44 ?_
        refine .ld (d := 50) (v := (.int .i64 (rest_21.length : Int))) hs50 ?_
        refine .ld (d := 51) (v := (.int .i64 v_31)) hs51 ?_
        refine .ld (d := 6) (v := (.slice a_25 out_24.length cap_26)) hs6 ?_
        refine .ld (d := 7) (v := (.int .i64 next_32)) hs7 ?_
        refine .ld (d := 1000000) (v := (enc [])) hs1000000 ?_
        clear hs3 hs43 hs44 hs50 hs51 hs6 hs7 hs1000000
        cases n_28 with
        | zero => rw [m_graph_Graph_Chordal_L2.eq_1] at hm; cases hm
        | succ n_28 =>
          rw [m_graph_Graph_Chordal_L2.eq_2] at hm
          refine wseq ?_
          refine wregion ?_
          refine lv (v := (.bool (decide (v_31 < (rest_21.length : Int))))) rfl rfl (r_lss v_31 (rest_21.length : Int) rfl rfl) ?_
          refine lnil ?_
          refine wseq ?_
          refine wcond (decide (v_31 < (rest_21.length : Int))) rfl (fun hb => ?_) (fun hb => ?_)
          · rw [if_pos hb] at hm
            clear hb
            refine wskip ?_
            refine wseq ?_
            refine Wp.cut (fun f w_33 => ∃ (col_34 : Col) (next_35 : Int), m_graph_Graph_Chordal_J1 v_31 (m_graph_Graph_Chordal_L2 N rest_21 v_23 out_24 (m_graph_Graph_Chordal_L1 N p0_g n_18) n_28) next_35 = some r ∧ St w0 (col0 col) col_34 w_33 ∧ GO 85 86 1 col_34 w_33 (GObj.mk g_3 a_2 p0_g.length bs_4) rest_21 ∧ Own Rep.bool 4 5 col_34 w_33 a_25 cap_26 out_24 ∧ f 3 = (.pointer (some ⟨(GObj.mk g_3 a_2 p0_g.length bs_4).g, 0, none⟩)) ∧ f 43 = (.int .i64 (p0_g.length : Int)) ∧ f 44 = (.int .i64 v_23) ∧ f 50 = (.int .i64 (rest_21.length : Int)) ∧ f 51 = (.int .i64 v_31) ∧ f 6 = (.slice a_25 out_24.length cap_26) ∧ f 7 = (.int .i64 next_35) ∧ f 1000000 = (enc [])) ?_ ?_
            · intro f w_33 hJ
              obtain ⟨col_34, next_35, hm, hst, h_22, h_27, hs3, hs43, hs44, hs50, hs51, hs6, hs7, hs1000000⟩ := hJ
              rw [m_graph_Graph_Chordal_J1.eq_1] at hm
              refine .ld (d := 3) (v := (.pointer (some ⟨(GObj.mk g_3 a_2 p0_g.length bs_4).g, 0, none⟩))) hs3 ?_
              refine .ld (d := 43) (v := (.int .i64 (p0_g.length : Int))) hs43 ?_
              refine .ld (d := 44) (v := (.int .i64 v_23)) hs44 ?_
              refine .ld (d := 50) (v := (.int .i64 (rest_21.length : Int))) hs50 ?_
              refine .ld (d := 51) (v := (.int .i64 v_31)) hs51 ?_
              refine .ld (d := 6) (v := (.slice a_25 out_24.length cap_26)) hs6 ?_
              refine .ld (d := 7) (v := (.int .i64 next_35)) hs7 ?_
              refine .ld (d := 1000000) (v := (enc [])) hs1000000 ?_
              clear hs3 hs43 hs44 hs50 hs51 hs6 hs7 hs1000000
              refine wregion ?_
              refine lv (v := (.int .i64 (IntKind.i64.wrap (v_31 + 1)))) rfl rfl (r_add v_31 1 rfl rfl) ?_
              refine lv (v := (.int .i64 (IntKind.i64.wrap (v_31 + 1)))) rfl rfl (r_move rfl) ?_
              refine lnil ?_
              exact ⟨n_28, by omega, ⟨col_34, (IntKind.i64.wrap (v_31 + 1)), next_35, n_28, rfl, hm, hst, h_22, h_27, rfl, rfl, rfl, rfl, rfl, rfl, rfl, rfl⟩⟩
            · refine wblock ?_
              refine wseq ?_
              refine wregion ?_
              refine lv (v := (.int .i64 v_31)) rfl rfl (r_move rfl) ?_
              refine lv (v := (.int .i64 v_31)) rfl rfl (r_assign rfl) ?_
              refine lnil ?_
              refine wseq ?_
              refine Wp.cut (fun f w_43 => ∃ (col_44 : Col) (v_45 : Bool), m_graph_Graph_Chordal_J2 N rest_21 v_23 out_24 (m_graph_Graph_Chordal_L1 N p0_g n_18) v_31 next_32 (m_graph_Graph_Chordal_L2 N rest_21 v_23 out_24 (m_graph_Graph_Chordal_L1 N p0_g n_18) n_28) v_45 = some r ∧ St w0 (col0 col) col_44 w_43 ∧ GO 85 86 1 col_44 w_43 (GObj.mk g_3 a_2 p0_g.length bs_4) rest_21 ∧ Own Rep.bool 4 5 col_44 w_43 a_25 cap_26 out_24 ∧ f 3 = (.pointer (some ⟨(GObj.mk g_3 a_2 p0_g.length bs_4).g, 0, none⟩)) ∧ f 43 = (.int .i64 (p0_g.length : Int)) ∧ f 44 = (.int .i64 v_23) ∧ f 50 = (.int .i64 (rest_21.length : Int)) ∧ f 51 = (.int .i64 v_31) ∧ f 6 = (.slice a_25 out_24.length cap_26) ∧ f 64 = (.bool v_45) ∧ f 7 = (.int .i64 next_32) ∧ f 8 = (.int .i64 v_31) ∧ f 1000000 = (enc [])) ?_ ?_
              · intro f w_43 hJ
                obtain ⟨col_44, v_45, hm, hst, h_22, h_27, hs3, hs43, hs44, hs50, hs51, hs6, hs64, hs7, hs8, hs1000000⟩ := hJ
                rw [m_graph_Graph_Chordal_J2.eq_1] at hm
                refine .ld (d := 3) (v := (.pointer (some ⟨(GObj.mk g_3 a_2 p0_g.length bs_4).g, 0, none⟩))) hs3 ?_
                refine .ld (d := 43) (v := (.int .i64 (p0_g.length : Int))) hs43 ?_
                refine .ld (d := 44) (v := (.int .i64 v_23)) hs44 ?_
                refine .ld (d := 50) (v := (.int .i64 (rest_21.length : Int))) hs50 ?_
                refine .ld (d := 51) (v := (.int .i64 v_31)) hs51 ?_
                refine .ld (d := 6) (v := (.slice a_25 out_24.length cap_26)) hs6 ?_
                refine .ld (d := 64) (v := (.bool v_45)) hs64 ?_
                refine .ld (d := 7) (v := (.int .i64 next_32)) hs7 ?_
                refine .ld (d := 8) (v := (.int .i64 v_31)) hs8 ?_
                refine .ld (d := 1000000) (v := (enc [])) hs1000000 ?_
                clear hs3 hs43 hs44 hs50 hs51 hs6 hs64 hs7 hs8 hs1000000
                refine wcond (v_45) rfl (fun hb => ?_) (fun hb => ?_)
                · rw [if_pos hb] at hm
                  clear hb
                  refine wseq ?_
                  refine wregion ?_
                  refine lv (v := (.int .i64 v_31)) rfl rfl (r_move rfl) ?_
                  refine lv (v := (.int .i64 v_31)) rfl rfl (r_assign rfl) ?_
                  refine lnil ?_
                  refine wexit (inB_miss rfl (inB_hit ?_))
                  refine wseq ?_
                  refine wseq ?_
                  refine wregion ?_
                  refine lv (v := (.int .i64 v_31)) rfl rfl (r_move rfl) ?_
                  refine lv (v := (.bool (decide (v_31 < 0)))) rfl rfl (r_lss v_31 0 rfl rfl) ?_
                  refine lnil ?_
                  refine wcond (decide (v_31 < 0)) rfl (fun hb => ?_) (fun hb => ?_)
                  · rw [if_pos hb] at hm
                    clear hb
                    refine wseq ?_
                    refine wregion ?_
                    refine lv (v := (.bool false)) rfl rfl (r_assign rfl) ?_
                    refine lnil ?_
                    refine wret ?_
                    cases hm
                    exact ⟨rfl, rfl, hst.below⟩
                  · rw [if_neg (by rw [hb]; decide)] at hm
                    clear hb
                    refine wskip ?_
                    refine wseq ?_
                    refine wregion ?_
                    refine lv (v := (.slice a_25 out_24.length cap_26)) rfl rfl (r_move rfl) ?_
                    refine lv (v := (.int .i64 v_31)) rfl rfl (r_move rfl) ?_
                    obtain ⟨e_46, hj_47, hm⟩ := bind_some hm
                    refine lv (v := (sptr a_25 (Int.toNat v_31 * 1))) rfl rfl (r_idx Try.underlying26 Try.sizeOf4 rfl rfl (at?_some hj_47).1 (at?_some hj_47).2.1 (h_27.addr hj_47)) ?_
                    obtain ⟨xs_53, hz_52, hm⟩ := bind_some hm
                    have hz_52 : xs_53 = out_24.set (Int.toNat v_31) true := (Option.some.inj hz_52).symm
                    refine l_store (x1 := true) (v := (.bool true)) h_27 hj_47 rfl Try.sizeOf4 (rd_bool true) rfl rfl (by decide) ?_
                    intro w_48 hk_49 hs_50 h_51
                    rw [← hz_52] at h_51
                    replace h_22 := h_22.kp hk_49 (by decide) (by decide)
                    replace hst := hst.kp hk_49 hs_50 (by decide) (by decide)
                    refine .ld (d := 6) (v := (.slice a_25 xs_53.length cap_26)) (congrArg (fun n => Value.slice a_25 n cap_26) (show out_24.length = xs_53.length by rw [hz_52, List.length_set])) ?_
                    clear h_27
                    refine lnil ?_
                    refine wregion ?_
                    refine lv (v := (.pointer (some ⟨(GObj.mk g_3 a_2 p0_g.length bs_4).g, 0, none⟩))) rfl rfl (r_move rfl) ?_
                    refine lv (v := (.int .i64 v_31)) rfl rfl (r_move rfl) ?_
                    obtain ⟨r_54, hr_55, hm⟩ := bind_some hm
                    refine lc rfl rfl (r_call2 Try.call17 rfl rfl) (c_graph_Graph_Remove N 6 7 col_44 _ 1 rfl (GObj.mk g_3 a_2 p0_g.length bs_4) rest_21 v_31 h_22 r_54 hr_55) ?_
                    rintro _ w_63 ⟨col_65, ra_56, rc_57, ra_59, rc_60, rfl, hg_64, rh_58, rh_61, oh_62⟩
                    refine ⟨_, rfl, ?_⟩
                    replace h_51 := h_51.kpp hg_64 rfl rfl
                    replace hst := hst.kpp hg_64 rfl rfl
                    clear h_22
                    refine lnil ?_
                    refine wregion ?_
                    refine lv (v := (.int .i64 (IntKind.i64.wrap (v_23 + 1)))) rfl rfl (r_add v_23 1 rfl rfl) ?_
                    refine lv (v := (.int .i64 (IntKind.i64.wrap (v_23 + 1)))) rfl rfl (r_move rfl) ?_
                    refine lnil ?_
                    exact ⟨n_18, by omega, ⟨col_65, r_54.2.2, (IntKind.i64.wrap (v_23 + 1)), a_25, cap_26, xs_53, n_18, rfl, hm, hst, oh_62, h_51, rfl, rfl, rfl, rfl, rfl⟩⟩
                · rw [if_neg (by rw [hb]; decide)] at hm
                  clear hb
                  refine wskip ?_
                  exact ⟨col_44, next_32, hm, hst, h_22, h_27, rfl, rfl, rfl, rfl, rfl, rfl, rfl, rfl⟩
              · refine wregion ?_
                refine lv (v := (.slice a_25 out_24.length cap_26)) rfl rfl (r_move rfl) ?_
                refine lv (v := (.int .i64 v_31)) rfl rfl (r_move rfl) ?_
                obtain ⟨e_66, hj_67, hm⟩ := bind_some hm
                refine lv (v := (sptr a_25 (Int.toNat v_31 * 1))) rfl rfl (r_idx Try.underlying26 Try.sizeOf4 rfl rfl (at?_some hj_67).1 (at?_some hj_67).2.1 (h_27.addr hj_67)) ?_
                refine lv (v := (.bool e_66)) rfl rfl (r_ld Try.isAgg4 rfl (h_27.atBool hj_67)) ?_
                refine lv (v := (.bool (!e_66))) rfl rfl (r_not e_66 rfl) ?_
                refine lv (v := (.bool (!e_66))) rfl rfl (r_move rfl) ?_
                by_cases hg_68 : (!e_66) = true
                · rw [if_pos hg_68] at hm
                  refine lg (b := !e_66) 59 rfl rfl rfl (by rw [hg_68]; rfl) ?_
                  refine lv (v := (.pointer (some ⟨(GObj.mk g_3 a_2 p0_g.length bs_4).g, 0, none⟩))) rfl rfl (r_move rfl) ?_
                  refine lg (b := !e_66) 59 rfl rfl rfl (by rw [hg_68]; rfl) ?_
                  refine lv (v := (.int .i64 v_31)) rfl rfl (r_move rfl) ?_
                  refine lg (b := !e_66) 59 rfl rfl rfl (by rw [hg_68]; rfl) ?_
                  obtain ⟨r_69, hr_70, hm⟩ := bind_some hm
                  refine lc rfl rfl (r_call2 Try.call16 rfl rfl) (c_graph_Graph_Fill col_30 _ 1 (by decide) (GObj.mk g_3 a_2 p0_g.length bs_4) rest_21 v_31 h_22 r_69 hr_70) ?_
                  rintro _ w_71 ⟨rfl, hg_72⟩
                  refine ⟨_, rfl, ?_⟩
                  replace hg_72 : Grow col_30 w_29 col_30 w_71 := .of_below hg_72
                  replace h_22 := h_22.gr hg_72
                  replace h_27 := h_27.gr hg_72
                  replace hst := hst.grow hg_72
                  refine lg (b := !e_66) 59 rfl rfl rfl (by rw [hg_68]; rfl) ?_
                  refine lv (v := (.bool (decide (r_69 = 0)))) rfl rfl (r_eql r_69 0 rfl rfl) ?_
                  refine lv (v := (.bool (decide (r_69 = 0)))) rfl rfl (r_pickT (congrArg Value.bool hg_68) rfl) ?_
                  refine lnil ?_
                  exact ⟨col_30, (decide (r_69 = 0)), hm, hst, h_22, h_27, rfl, rfl, rfl, rfl, rfl, rfl, rfl, rfl, rfl, rfl⟩
                · rw [if_neg hg_68] at hm
                  replace hg_68 := Bool.eq_false_iff.2 hg_68
                  refine lp (b := !e_66) 59 rfl rfl rfl rfl (by rw [hg_68]; rfl) ?_
                  refine lp (b := !e_66) 59 rfl rfl rfl rfl (by rw [hg_68]; rfl) ?_
                  refine lp (b := !e_66) 59 rfl rfl rfl rfl (by rw [hg_68]; rfl) ?_
                  refine lp (b := !e_66) 59 rfl rfl rfl rfl (by rw [hg_68]; rfl) ?_
                  refine lv (v := (.bool false)) rfl rfl (r_pickF (congrArg Value.bool hg_68) rfl) ?_
                  refine lnil ?_
                  exact ⟨col_30, false, hm, hst, h_22, h_27, rfl, rfl, rfl, rfl, rfl, rfl, rfl, rfl, rfl, rfl⟩
          · rw [if_neg (by rw [hb]; decide)] at hm
            clear hb
            refine wexit (inB_hit ?_)
            refine wseq ?_
            refine wseq ?_
            refine wregion ?_
            refine lv (v := (.int .i64 next_32)) rfl rfl (r_move rfl) ?_
            refine lv (v := (.bool (decide (next_32 < 0)))) rfl rfl (r_lss next_32 0 rfl rfl) ?_
            refine lnil ?_
            refine wcond (decide (next_32 < 0)) rfl (fun hb => ?_) (fun hb => ?_)
            · rw [if_pos hb] at hm
              clear hb
              refine wseq ?_
              refine wregion ?_
              refine lv (v := (.bool false)) rfl rfl (r_assign rfl) ?_
              refine lnil ?_
              refine wret ?_
              cases hm
              exact ⟨rfl, rfl, hst.below⟩
            · rw [if_neg (by rw [hb]; decide)] at hm
              clear hb
              refine wskip ?_
              refine wseq ?_
              refine wregion ?_
              refine lv (v := (.slice a_25 out_24.length cap_26)) rfl rfl (r_move rfl) ?_
              refine lv (v := (.int .i64 next_32)) rfl rfl (r_move rfl) ?_
              obtain ⟨e_73, hj_74, hm⟩ := bind_some hm
              refine lv (v := (sptr a_25 (Int.toNat next_32 * 1))) rfl rfl (r_idx Try.underlying26 Try.sizeOf4 rfl rfl (at?_some hj_74).1 (at?_some hj_74).2.1 (h_27.addr hj_74)) ?_
              obtain ⟨xs_80, hz_79, hm⟩ := bind_some hm
              have hz_79 : xs_80 = out_24.set (Int.toNat next_32) true := (Option.some.inj hz_79).symm
              refine l_store (x1 := true) (v := (.bool true)) h_27 hj_74 rfl Try.sizeOf4 (rd_bool true) rfl rfl (by decide) ?_
              intro w_75 hk_76 hs_77 h_78
              rw [← hz_79] at h_78
              replace h_22 := h_22.kp hk_76 (by decide) (by decide)
              replace hst := hst.kp hk_76 hs_77 (by decide) (by decide)
              refine .ld (d := 6) (v := (.slice a_25 xs_80.length cap_26)) (congrArg (fun n => Value.slice a_25 n cap_26) (show out_24.length = xs_80.length by rw [hz_79, List.length_set])) ?_
              clear h_27
              refine lnil ?_
              refine wregion ?_
              refine lv (v := (.pointer (some ⟨(GObj.mk g_3 a_2 p0_g.length bs_4).g, 0, none⟩))) rfl rfl (r_move rfl) ?_
              refine lv (v := (.int .i64 next_32)) rfl rfl (r_move rfl) ?_
              obtain ⟨r_81, hr_82, hm⟩ := bind_some hm
              refine lc rfl rfl (r_call2 Try.call17 rfl rfl) (c_graph_Graph_Remove N 8 9 col_30 _ 1 rfl (GObj.mk g_3 a_2 p0_g.length bs_4) rest_21 next_32 h_22 r_81 hr_82) ?_
              rintro _ w_90 ⟨col_92, ra_83, rc_84, ra_86, rc_87, rfl, hg_91, rh_85, rh_88, oh_89⟩
              refine ⟨_, rfl, ?_⟩
              replace h_78 := h_78.kpp hg_91 rfl rfl
              replace hst := hst.kpp hg_91 rfl rfl
              clear h_22
              refine lnil ?_
              refine wregion ?_
              refine lv (v := (.int .i64 (IntKind.i64.wrap (v_23 + 1)))) rfl rfl (r_add v_23 1 rfl rfl) ?_
              refine lv (v := (.int .i64 (IntKind.i64.wrap (v_23 + 1)))) rfl rfl (r_move rfl) ?_
              refine lnil ?_
              exact ⟨n_18, by omega, ⟨col_92, r_81.2.2, (IntKind.i64.wrap (v_23 + 1)), a_25, cap_26, xs_80, n_18, rfl, hm, hst, oh_89, h_78, rfl, rfl, rfl, rfl, rfl⟩⟩
      · rw [if_neg (by rw [hb]; decide)] at hm
        clear hb
        refine wexit (inB_hit ?_)
        refine wseq ?_
        refine wregion ?_
        refine lv (v := (.bool true)) rfl rfl (r_assign rfl) ?_
        refine lnil ?_
        refine wret ?_
        cases hm
        exact ⟨rfl, rfl, hst.below⟩
  | succ n =>
    have hkb : decide ((k_5 : Int) < (p0_g.length : Int)) = true := decide_eq_true (by omega)
    refine wcondT (congrArg Value.bool hkb) ?_
    refine wskip ?_
    refine wseq ?_
    refine wblock ?_
    refine wseq ?_
    obtain ⟨row, hrow⟩ : ∃ row, p0_g[k_5]? = some row := ⟨_, List.getElem?_eq_getElem (by omega)⟩
    have hat_93 : at? p0_g (k_5 : Int) = some row := by rw [at?_nat]; exact hrow
    obtain ⟨b0, hb0, hM0, _⟩ := h0.blk hat_93
    refine wregion ?_
    refine lv (v := (.int .i64 (k_5 : Int))) rfl rfl (r_move rfl) ?_
    refine lv (v := (sptr o0.a (Int.toNat (k_5 : Int) * 1))) rfl rfl (r_idx Try.underlying83 Try.sizeOf86 rfl rfl (at?_some hat_93).1 (at?_some hat_93).2.1 (h0.addr hb0)) ?_
    refine lv (v := (.map (some b0))) rfl rfl (r_ld Try.isAgg86 rfl (h0.at1 hb0)) ?_
    refine lv (v := (.int .i64 (k_5 : Int))) rfl rfl (r_assign rfl) ?_
    refine lv (v := (.map (some b0))) rfl rfl (r_assign rfl) ?_
    refine lnil ?_
    refine wmix (col := col_l) [(0, 1), (1, 1), (2, 1), (3, 0), (4, 1), (5, 1), (6, 3), (7, 1), (8, 2)] (by kernel_rfl) (by kernel_rfl) ?_
    refine xu (v := (.pointer (some ⟨g_3, 0, none⟩))) rfl rfl (fun _ => r_move rfl) ?_
    refine xu (v := (.pointer (some ⟨g_3, 0, none⟩))) rfl rfl (fun _ => r_nilCheck rfl) ?_
    refine xu (v := (.pointer ((some (⟨g_3, 0, none⟩ : Addr)).map (·.add 0)))) rfl rfl (fun _ => r_fieldAddr (sz := 1) (off := 0) Try.underlying85 rfl Try.sizeOf83 (by decide) rfl rfl ⟨_, _, rfl⟩) ?_
    refine xv (v := (.slice a_2 p0_g.length p0_g.length)) rfl rfl (fun _ hC => r_ld Try.isAgg83 rfl ((hB.gr (Grow.of_below (col := col_l) hC.below)).atN.nth (q := 0) (v := (.slice a_2 p0_g.length p0_g.length)) rfl)) ?_
    refine xu (v := (.int .i64 (k_5 : Int))) rfl rfl (fun _ => r_move rfl) ?_
    refine xu (v := (.map (some b0))) rfl rfl (fun _ => r_move rfl) ?_
    refine xe rfl rfl ?_
    intro w_m hC0
    have hC : Grow col_l w_l col_l w_m := .of_below hC0.below
    replace hst := hst.grow hC
    replace h0 := h0.gr hC
    replace hB := hB.gr hC
    replace hR := hR.gr hC
    replace hMs := fun i b row h1 h2 => (hMs i b row h1 h2).gr hC
    replace hM0 := hM0.gr hC
    refine lc rfl rfl (r_call1 Try.call52 rfl) (c_clone 4 999 b0 row col_l _ hM0) ?_
    rintro _ w_n ⟨col_n, b1, rfl, hgn, hM⟩
    refine ⟨_, rfl, ?_⟩
    replace hst := hst.grow hgn
    replace h0 := h0.gr hgn
    replace hB := hB.gr hgn
    replace hR := hR.gr hgn
    replace hMs := fun i b row h1 h2 => (hMs i b row h1 h2).gr hgn
    clear hM0
    refine lnil ⟨fun w' => Grow col_n w_n col_n w', Grow.refl _ _, fun _ _ h => cls hC0 hgn h, ?_⟩
    have hat2 : at? (bs_4.map some ++ List.replicate (n + 1) none) (k_5 : Int) = some (none : Option Nat) := by
      rw [at?_nat, List.getElem?_append_right (by simp [hbl]), List.length_map, hbl, Nat.sub_self, List.replicate_succ]; rfl
    refine xu (v := (sptr a_2 (Int.toNat (k_5 : Int) * 1))) rfl rfl (fun _ => r_idx Try.underlying83 Try.sizeOf86 rfl rfl (by omega) (by omega) (hR.addr hat2)) ?_
    refine xe rfl rfl ?_
    intro w_o hC1
    have hC2 : Grow col_n w_n col_n w_o := .of_below hC1.below
    replace hst := hst.grow hC2
    replace h0 := h0.gr hC2
    replace hB := hB.gr hC2
    replace hR := hR.gr hC2
    replace hMs := fun i b row h1 h2 => (hMs i b row h1 h2).gr hC2
    replace hM := hM.gr hC2
    refine l_store (x1 := some b1) (v := .map (some b1)) hR hat2 rfl Try.sizeOf86 ⟨rfl, rfl⟩ rfl rfl (by decide) ?_
    intro w_p hkp hsp hR2
    replace hst := hst.kp hkp hsp (by decide) (by decide)
    replace h0 := h0.kp hkp (by decide) (by decide)
    replace hB := hB.kp hkp (by decide)
    replace hM := hM.kp hkp (by decide) (by decide)
    replace hMs := fun i b row h1 h2 => (hMs i b row h1 h2).kp hkp (by decide) (by decide)
    clear hR
    refine lnil ⟨fun w' => Grow col_n w_p col_n w', Grow.refl _ _, fun h => absurd h (by decide), ?_⟩
    refine xnil ?_
    intro w_q hC3
    replace hC3 : Grow col_n w_p col_n w_q := .of_below hC3.below
    replace hst := hst.grow hC3
    replace h0 := h0.gr hC3
    replace hB := hB.gr hC3
    replace hR2 := hR2.gr hC3
    replace hM := hM.gr hC3
    replace hMs := fun i b row h1 h2 => (hMs i b row h1 h2).gr hC3
    refine wregion ?_
    refine lv (v := (.int .i64 (IntKind.i64.wrap ((k_5 : Int) + 1)))) rfl rfl (r_add (k_5 : Int) 1 rfl rfl) ?_
    refine lv (v := (.int .i64 (IntKind.i64.wrap ((k_5 : Int) + 1)))) rfl rfl (r_move rfl) ?_
    refine lnil ?_
    have hnb : b1 ∉ bs_4 := fun hx => by
      obtain ⟨i, hi⟩ := List.getElem?_of_mem hx
      have hil := (List.getElem?_eq_some_iff.1 hi).1
      have h1 := (hMs i b1 _ hi (List.getElem?_eq_getElem (by omega))).1
      rw [hM.1] at h1; cases h1
    replace hst := hst.recol 4 3 (by decide) (by decide)
    replace h0 := h0.recol 4 3 (by decide)
    replace hB := hB.recol 4 3 (by decide)
    replace hR2 := hR2.recol 4 3 (by decide)
    replace hM := hM.recolSelf 3
    replace hMs := fun i b row h1 h2 => (hMs i b row h1 h2).recol 4 3 (by decide)
    have hset : (bs_4.map some ++ List.replicate (n + 1) none).set (Int.toNat (k_5 : Int)) (some b1) = (bs_4 ++ [b1]).map some ++ List.replicate n none := by
      rw [Int.toNat_natCast, List.set_append_right _ _ (by simp [hbl]), List.length_map, hbl, Nat.sub_self, List.replicate_succ]
      simp
    rw [hset] at hR2
    refine ⟨n, by omega, ⟨_, k_5 + 1, bs_4 ++ [b1], by omega, by simp [hbl], ?_, hst, h0, hB, hR2, ?_, ?_, rfl, rfl, rfl, rfl, rfl⟩⟩
    · rw [List.nodup_append]
      exact ⟨hnd, by simp, fun x hx y hy e => by simp only [List.mem_singleton] at hy; subst hy; subst e; exact hnb hx⟩
    · intro i b row1 h1 h2
      by_cases hi : i < bs_4.length
      · rw [List.getElem?_append_left hi] at h1; exact hMs i b row1 h1 h2
      · rw [List.getElem?_append_right (by omega)] at h1
        have hi2 : i = k_5 := by
          have := (List.getElem?_eq_some_iff.1 h1).1
          simp only [List.length_cons, List.length_nil] at this; omega
        subst hi2
        rw [hbl, Nat.sub_self] at h1
        cases h1
        rw [hrow] at h2; cases h2
        exact hM
    · exact congrArg (Value.int .i64) (wrap_succ (by simp only [maxLen]; omega))




def m_l15_pick_J1 (k_4 : Int) : Option Int :=
  some k_4

def m_l15_pick (p0_i : Int) (p1_n : Int) : Option Int :=
  chk (p1_n ≠ 0) (if (decide ((Int.tmod p0_i p1_n) < 0)) = true then (m_l15_pick_J1 (IntKind.i64.wrap ((Int.tmod p0_i p1_n) + p1_n))) else (m_l15_pick_J1 (Int.tmod p0_i p1_n)))

set_option maxRecDepth 100000 in
set_option maxHeartbeats 2000000 in
theorem c_l15_pick (col : Col) (w0 : World) (p0_i : Int) (p1_n : Int) (r : Int) (hm : m_l15_pick p0_i p1_n = some r) :
    Calls Try.prog 21 #[(.int .i64 p0_i), (.int .i64 p1_n)] w0 (fun e w' => e = .returned ((.int .i64 r)) ∧ Below w0.heap.size w0 w') := by
  refine calls_of1 4 (m := 15) (args := [(.int .i64 p0_i), (.int .i64 p1_n)]) Try.func21 rfl rfl rfl rfl rfl ?_
  rw [m_l15_pick.eq_1] at hm
  have hst := St.start col w0
  refine wseq ?_
  refine wregion ?_
  refine lv (v := (.int .i64 0)) rfl rfl (r_assign rfl) ?_
  refine lnil ?_
  refine wseq ?_
  refine wregion ?_
  refine lv (v := (.int .i64 p0_i)) rfl rfl (r_move rfl) ?_
  refine lv (v := (.int .i64 p1_n)) rfl rfl (r_move rfl) ?_
  obtain ⟨h0_1, hm⟩ := chk_some hm
  refine lv (v := (.int .i64 (Int.tmod p0_i p1_n))) rfl rfl (r_rem p0_i p1_n rfl rfl h0_1) ?_
  refine lv (v := (.int .i64 (Int.tmod p0_i p1_n))) rfl rfl (r_assign rfl) ?_
  refine lnil ?_
  refine wseq ?_
  refine Wp.cut (fun f w_2 => ∃ (col_3 : Col) (k_4 : Int), m_l15_pick_J1 k_4 = some r ∧ St w0 (col0 col) col_3 w_2 ∧ f 5 = (.int .i64 k_4) ∧ f 1000000 = (enc [])) ?_ ?_
  · intro f w_2 hJ
    obtain ⟨col_3, k_4, hm, hst, hs5, hs1000000⟩ := hJ
    rw [m_l15_pick_J1.eq_1] at hm
    refine .ld (d := 5) (v := (.int .i64 k_4)) hs5 ?_
    refine .ld (d := 1000000) (v := (enc [])) hs1000000 ?_
    clear hs5 hs1000000
    refine wseq ?_
    refine wregion ?_
    refine lv (v := (.int .i64 k_4)) rfl rfl (r_move rfl) ?_
    refine lv (v := (.int .i64 k_4)) rfl rfl (r_assign rfl) ?_
    refine lnil ?_
    refine wret ?_
    cases hm
    exact ⟨rfl, rfl, hst.below⟩
  · refine wseq ?_
    refine wregion ?_
    refine lv (v := (.int .i64 (Int.tmod p0_i p1_n))) rfl rfl (r_move rfl) ?_
    refine lv (v := (.bool (decide ((Int.tmod p0_i p1_n) < 0)))) rfl rfl (r_lss (Int.tmod p0_i p1_n) 0 rfl rfl) ?_
    refine lnil ?_
    refine wcond (decide ((Int.tmod p0_i p1_n) < 0)) rfl (fun hb => ?_) (fun hb => ?_)
    · rw [if_pos hb] at hm
      clear hb
      refine wregion ?_
      refine lv (v := (.int .i64 (Int.tmod p0_i p1_n))) rfl rfl (r_move rfl) ?_
      refine lv (v := (.int .i64 p1_n)) rfl rfl (r_move rfl) ?_
      refine lv (v := (.int .i64 (IntKind.i64.wrap ((Int.tmod p0_i p1_n) + p1_n)))) rfl rfl (r_add (Int.tmod p0_i p1_n) p1_n rfl rfl) ?_
      refine lv (v := (.int .i64 (IntKind.i64.wrap ((Int.tmod p0_i p1_n) + p1_n)))) rfl rfl (r_assign rfl) ?_
      refine lnil ?_
      exact ⟨(col0 col), (IntKind.i64.wrap ((Int.tmod p0_i p1_n) + p1_n)), hm, hst, rfl, rfl⟩
    · rw [if_neg (by rw [hb]; decide)] at hm
      clear hb
      refine wskip ?_
      exact ⟨(col0 col), (Int.tmod p0_i p1_n), hm, hst, rfl, rfl⟩



def m_graph_New (p0_n : Int) : Option ((Option (List (List Bool))) × Int) :=
  if p0_n < 0 ∨ 1024 < p0_n then some (none, 3) else some (some (List.replicate p0_n.toNat (List.replicate p0_n.toNat false)), 0)

set_option maxRecDepth 100000 in
set_option maxHeartbeats 2000000 in
theorem c_graph_New (c1 : Nat) (col : Col) (w0 : World) (p0_n : Int) (r : ((Option (List (List Bool))) × Int)) (hm : m_graph_New p0_n = some r) :
    Calls Try.prog 51 #[(.int .i64 p0_n)] w0 (fun e w' => ∃ (col' : Col) (rv1 : Value), e = .returned (.tuple #[rv1, (.int .i64 r.2)]) ∧ Grow col w0 col' w' ∧ optP rv1 r.1 (fun (d : List (List Bool)) => ∃ (o9 : GObj), rv1 = .pointer (some ⟨o9.g, 0, none⟩) ∧ GO 85 86 c1 col' w' o9 d)) := by
  refine calls_of2 2 3 (m := 33) (args := [(.int .i64 p0_n)]) Try.func51 rfl rfl rfl rfl rfl ?_
  unfold m_graph_New at hm
  have hst := St.start col w0
  refine wseq ?_
  refine wregion ?_
  refine lv (v := (.pointer none)) rfl rfl (r_assign rfl) ?_
  refine lv (v := (.int .i64 0)) rfl rfl (r_assign rfl) ?_
  refine lnil ?_
  refine wseq ?_
  refine wseq ?_
  refine Wp.cut (fun f w_2 => ∃ (col_3 : Col) (v_4 : Bool), v_4 = decide (p0_n < 0 ∨ 1024 < p0_n) ∧ St w0 (col0 col) col_3 w_2 ∧ f 0 = (.int .i64 p0_n) ∧ f 11 = (.bool v_4) ∧ f 1000000 = (enc [])) ?_ ?_
  · intro f w_2 hJ
    obtain ⟨col_3, v_4, hv, hst, hs0, hs11, hs1000000⟩ := hJ
    refine .ld (d := 0) (v := (.int .i64 p0_n)) hs0 ?_
    refine .ld (d := 11) (v := (.bool v_4)) hs11 ?_
    refine .ld (d := 1000000) (v := (enc [])) hs1000000 ?_
    clear hs0 hs11 hs1000000
    refine wcond (v_4) rfl (fun hb => ?_) (fun hb => ?_)
    · rw [if_pos (of_decide_eq_true (hv ▸ hb))] at hm
      clear hb
      refine wseq ?_
      refine wregion ?_
      refine lv (v := (.pointer none)) rfl rfl (r_assign rfl) ?_
      refine lv (v := (.int .i64 3)) rfl rfl (r_assign rfl) ?_
      refine lnil ?_
      refine wret ?_
      cases hm
      exact ⟨rfl, colF w0.heap.size col col_3 (fun n => 0), (.pointer none), rfl, hst.fin (fun n => 0), optP_no⟩
    · have hn : ¬ (p0_n < 0 ∨ 1024 < p0_n) := of_decide_eq_false (hv ▸ hb)
      rw [if_neg hn] at hm
      clear hb
      have h0 : 0 ≤ p0_n := by omega
      have h1 : p0_n ≤ 1024 := by omega
      have heq : p0_n = (p0_n.toNat : Int) := by omega
      generalize hN : p0_n.toNat = n0 at hm heq
      have hn0 : n0 ≤ 1024 := by omega
      refine wskip ?_
      refine wseq ?_
      refine wregion ?_
      refine lv (v := (.int .i64 p0_n)) rfl rfl (r_move rfl) ?_
      refine l_make (col := col_3) (w := w_2) (r := Rep.mref) (n := n0) (x0 := none) 2 rfl Try.underlying83 Try.t86 rfl rfl rfl rfl rfl (congrArg (Value.int _) heq) (congrArg (Value.int _) heq) (show n0 * 8 ≤ 281474976710656 by omega) (by simp only [maxLen]; omega) ⟨rfl, rfl⟩ ?_
      intro a_2 w_3 col_4 hg_5 hR
      replace hst := hst.grow hg_5
      refine lv (v := (.agg #[.slice a_2 (List.replicate n0 (none : Option Nat)).length n0])) rfl rfl (r_build (l := [_]) (qs := [(0, 1)]) Try.underlying85 Try.zeroValue85 ⟨rfl, Try.sizeOf83, trivial⟩ rfl) ?_
      refine l_box (col := col_4) (v := .agg #[.slice a_2 (List.replicate n0 (none : Option Nat)).length n0]) 1 rfl rfl ?_
      intro g w_4 col_5 hg_6 hB
      replace hst := hst.grow hg_6
      replace hR := hR.gr hg_6
      replace hB : Box 85 1 col_5 w_4 g #[.slice a_2 n0 n0] := by rw [List.length_replicate] at hB; exact hB
      refine lv (v := (.pointer (some ⟨g, 0, none⟩))) rfl rfl (r_assign rfl) ?_
      refine lnil ?_
      refine wseq ?_
      refine wseq ?_
      refine wregion ?_
      refine lv (v := (.pointer (some ⟨g, 0, none⟩))) rfl rfl (r_move rfl) ?_
      refine lv (v := (.pointer (some ⟨g, 0, none⟩))) rfl rfl (r_nilCheck rfl) ?_
      refine lv (v := (.pointer ((some (⟨g, 0, none⟩ : Addr)).map (·.add 0)))) rfl rfl (r_fieldAddr (sz := 1) (off := 0) Try.underlying85 rfl Try.sizeOf83 (by decide) rfl rfl ⟨_, _, rfl⟩) ?_
      refine lv (v := (.slice a_2 n0 n0)) rfl rfl (r_ld Try.isAgg83 rfl (hB.atN.nth (q := 0) (v := .slice a_2 n0 n0) rfl)) ?_
      refine lv (v := (.int .i64 (n0 : Int))) rfl rfl (r_len Try.underlying83 rfl) ?_
      refine lv (v := (.int .i64 0)) rfl rfl (r_move rfl) ?_
      refine lnil ?_
      refine wblock ?_
      refine wloop (fun n f w => ∃ (col' : Col) (k : Nat) (bs : List Nat), k + n = n0 ∧ bs.length = k ∧ bs.Nodup ∧ St w0 (col0 col) col' w ∧ Box 85 1 col' w g #[.slice a_2 n0 n0] ∧ Own Rep.mref 86 2 col' w a_2 n0 (bs.map some ++ List.replicate n none) ∧ (∀ b ∈ bs, MapB 3 col' w b (List.replicate n0 false)) ∧
        f 21 = (.int .i64 (k : Int)) ∧ f 20 = (.int .i64 (n0 : Int)) ∧ f 4 = (.pointer (some ⟨g, 0, none⟩)) ∧ f 1000000 = (enc [])) n0 ⟨col_5, 0, [], by omega, rfl, by simp, hst, hB, hR, by simp, rfl, rfl, rfl, rfl⟩ ?_
      clear hst hB hR
      intro n f w hI
      obtain ⟨col', k, bs, hk, hbl, hnd, hst, hB, hR, hMs, hs21, hs20, hs4, hs1000000⟩ := hI
      refine .ld (d := 21) (v := (.int .i64 (k : Int))) hs21 ?_
      refine .ld (d := 20) (v := (.int .i64 (n0 : Int))) hs20 ?_
      refine .ld (d := 4) (v := (.pointer (some ⟨g, 0, none⟩))) hs4 ?_
      refine .ld (d := 1000000) (v := (enc [])) hs1000000 ?_
      clear hs21 hs20 hs4 hs1000000
      refine wseq ?_
      refine wregion ?_
      refine lv (v := (.bool (decide ((k : Int) < (n0 : Int))))) rfl rfl (r_lss (k : Int) (n0 : Int) rfl rfl) ?_
      refine lnil ?_
      refine wseq ?_
      cases n with
      | zero =>
        have hkb : decide ((k : Int) < (n0 : Int)) = false := decide_eq_false (by omega)
        refine wcondF (congrArg Value.bool hkb) ?_
        refine wexit (inB_hit ?_)
        refine wseq ?_
        refine wregion ?_
        refine lv (v := (.pointer (some ⟨g, 0, none⟩))) rfl rfl (r_move rfl) ?_
        refine lv (v := (.pointer (some ⟨g, 0, none⟩))) rfl rfl (r_assign rfl) ?_
        refine lv (v := (.int .i64 0)) rfl rfl (r_assign rfl) ?_
        refine lnil ?_
        refine wret ?_
        cases hm
        rw [List.replicate_zero, List.append_nil] at hR
        have hk0 : k = n0 := by omega
        subst hk0
        have hl : (List.replicate k (List.replicate k false)).length = k := List.length_replicate
        refine ⟨rfl, colF w0.heap.size col col' (fun n => bif Nat.beq n 1 then c1 else bif Nat.beq n 2 then c1 else bif Nat.beq n 3 then c1 else 0), (.pointer (some ⟨g, 0, none⟩)), rfl, hst.fin _, optP_of ⟨⟨g, a_2, k, bs⟩, rfl, ?_, hst.finOwn (g := (fun n => bif Nat.beq n 1 then c1 else bif Nat.beq n 2 then c1 else bif Nat.beq n 3 then c1 else 0)) rfl hR (by decide) (by decide) rfl, ?_, hnd, ?_, ?_⟩⟩
        · rw [hl]; exact hst.finBox (G := (fun n => bif Nat.beq n 1 then c1 else bif Nat.beq n 2 then c1 else bif Nat.beq n 3 then c1 else 0)) hB (by decide) (by decide) rfl
        · rw [hl]; exact hbl
        · intro r hr; rw [List.eq_of_mem_replicate hr, hl]; simp
        · intro i b r h1 h2
          rw [List.getElem?_replicate] at h2
          split at h2
          · cases h2
            exact hst.finMapB (G := (fun n => bif Nat.beq n 1 then c1 else bif Nat.beq n 2 then c1 else bif Nat.beq n 3 then c1 else 0)) (hMs b (List.mem_of_getElem? h1)) (by decide) (by decide) rfl
          · cases h2
      | succ n =>
        have hkb : decide ((k : Int) < (n0 : Int)) = true := decide_eq_true (by omega)
        refine wcondT (congrArg Value.bool hkb) ?_
        refine wskip ?_
        refine wseq ?_
        refine wblock ?_
        refine wseq ?_
        refine wregion ?_
        refine lv (v := (.int .i64 (k : Int))) rfl rfl (r_move rfl) ?_
        refine lv (v := (.int .i64 (k : Int))) rfl rfl (r_assign rfl) ?_
        refine lnil ?_
        refine wregion ?_
        refine lv (v := (.pointer (some ⟨g, 0, none⟩))) rfl rfl (r_move rfl) ?_
        refine lv (v := (.pointer (some ⟨g, 0, none⟩))) rfl rfl (r_nilCheck rfl) ?_
        refine lv (v := (.pointer ((some (⟨g, 0, none⟩ : Addr)).map (·.add 0)))) rfl rfl (r_fieldAddr (sz := 1) (off := 0) Try.underlying85 rfl Try.sizeOf83 (by decide) rfl rfl ⟨_, _, rfl⟩) ?_
        refine lv (v := (.slice a_2 n0 n0)) rfl rfl (r_ld Try.isAgg83 rfl (hB.atN.nth (q := 0) (v := .slice a_2 n0 n0) rfl)) ?_
        refine lv (v := (.int .i64 (k : Int))) rfl rfl (r_move rfl) ?_
        refine l_gmake (col := col') 4 n0 rfl ?_
        intro b w_7 col_8 hg_9 hM
        replace hst := hst.grow hg_9
        replace hB := hB.gr hg_9
        replace hR := hR.gr hg_9
        replace hMs := fun x hx => (hMs x hx).gr hg_9
        have hat : at? (bs.map some ++ List.replicate (n + 1) none) (k : Int) = some (none : Option Nat) := by
          rw [at?_nat, List.getElem?_append_right (by simp [hbl]), List.length_map, hbl, Nat.sub_self, List.replicate_succ]; rfl
        refine lv (v := (sptr a_2 (Int.toNat (k : Int) * 1))) rfl rfl (r_idx Try.underlying83 Try.sizeOf86 rfl rfl (by omega) (by omega) (hR.addr hat)) ?_
        refine l_store (x1 := some b) (v := .map (some b)) hR hat rfl Try.sizeOf86 ⟨rfl, rfl⟩ rfl rfl (by decide) ?_
        intro w_8 hk_1 hs_1 hR2
        replace hst := hst.kp hk_1 hs_1 (by decide) (by decide)
        replace hB := hB.kp hk_1 (by decide)
        replace hM := hM.kp hk_1 (by decide) (by decide)
        replace hMs := fun x hx => (hMs x hx).kp hk_1 (by decide) (by decide)
        clear hR
        have hnb : b ∉ bs := fun hb => by
          have h1 := (hMs b hb).1
          rw [hM.1] at h1; cases h1
        refine lnil ?_
        refine wregion ?_
        refine lv (v := (.int .i64 (IntKind.i64.wrap ((k : Int) + 1)))) rfl rfl (r_add (k : Int) 1 rfl rfl) ?_
        refine lv (v := (.int .i64 (IntKind.i64.wrap ((k : Int) + 1)))) rfl rfl (r_move rfl) ?_
        refine lnil ?_
        replace hst := hst.recol 4 3 (by decide) (by decide)
        replace hB := hB.recol 4 3 (by decide)
        replace hR2 := hR2.recol 4 3 (by decide)
        replace hM := hM.recolSelf 3
        replace hMs := fun x hx => (hMs x hx).recol 4 3 (by decide)
        have hset : (bs.map some ++ List.replicate (n + 1) none).set (Int.toNat (k : Int)) (some b) = (bs ++ [b]).map some ++ List.replicate n none := by
          rw [Int.toNat_natCast, List.set_append_right _ _ (by simp [hbl]), List.length_map, hbl, Nat.sub_self, List.replicate_succ]
          simp
        rw [hset] at hR2
        refine ⟨n, by omega, ⟨_, k + 1, bs ++ [b], by omega, by simp [hbl], ?_, hst, hB, hR2, ?_, ?_, rfl, rfl, rfl⟩⟩
        · rw [List.nodup_append]
          exact ⟨hnd, by simp, fun x hx y hy e => by simp only [List.mem_singleton] at hy; subst hy; subst e; exact hnb hx⟩
        · intro x hx
          rcases List.mem_append.1 hx with hx | hx
          · exact hMs x hx
          · simp only [List.mem_singleton] at hx; subst hx; exact hM
        · exact congrArg (Value.int .i64) (wrap_succ (by simp only [maxLen]; omega))
  · refine wregion ?_
    refine lv (v := (.int .i64 p0_n)) rfl rfl (r_move rfl) ?_
    refine lv (v := (.bool (decide (p0_n < 0)))) rfl rfl (r_lss p0_n 0 rfl rfl) ?_
    refine lv (v := (.bool (decide (p0_n < 0)))) rfl rfl (r_move rfl) ?_
    by_cases hg_5 : (decide (p0_n < 0)) = true
    · refine lp (b := decide (p0_n < 0)) 8 rfl rfl rfl rfl (by rw [hg_5]; rfl) ?_
      refine lp (b := decide (p0_n < 0)) 8 rfl rfl rfl rfl (by rw [hg_5]; rfl) ?_
      refine lv (v := (.bool true)) rfl rfl (r_pickT (congrArg Value.bool hg_5) rfl) ?_
      refine lnil ?_
      exact ⟨(col0 col), true, by have := of_decide_eq_true hg_5; simp [this], hst, rfl, rfl, rfl⟩
    · replace hg_5 := Bool.eq_false_iff.2 hg_5
      refine lg (b := decide (p0_n < 0)) 8 rfl rfl rfl (by rw [hg_5]; rfl) ?_
      refine lv (v := (.int .i64 p0_n)) rfl rfl (r_move rfl) ?_
      refine lg (b := decide (p0_n < 0)) 8 rfl rfl rfl (by rw [hg_5]; rfl) ?_
      refine lv (v := (.bool (decide (1024 < p0_n)))) rfl rfl (r_gtr p0_n 1024 rfl rfl) ?_
      refine lv (v := (.bool (decide (1024 < p0_n)))) rfl rfl (r_pickF (congrArg Value.bool hg_5) rfl) ?_
      refine lnil ?_
      exact ⟨(col0 col), (decide (1024 < p0_n)), by have := of_decide_eq_false hg_5; simp [this], hst, rfl, rfl, rfl⟩



def m_l15_drawn_J2 (v_27 : Bool) : Option (Option (List (List Bool))) :=
  if v_27 = true then none else (some none)

def m_l15_drawn_L1 (N : Nat) (p1_pairs : (List Int)) (r_1 : Int) : Nat → Int → Option (Option (List (List Bool)))
  | 0, _ => none
  | n_20 + 1, i_23 => if (decide ((IntKind.i64.wrap (i_23 + 1)) < (p1_pairs.length : Int))) = true then (m_l15_drawn_J2 (decide (0 < r_1))) else (m_l15_drawn_J2 false)

def m_l15_drawn_J1 (N : Nat) (p1_pairs : (List Int)) (r_1 : Int) (v_19 : Bool) : Option (Option (List (List Bool))) :=
  if v_19 = true then (some none) else (m_l15_drawn_L1 N p1_pairs r_1 N 0)

def m_l15_drawn_J4 (p1_pairs : (List Int)) (r_1 : Int) (g_41 : List (List Bool)) (i_43 : Int) (kk_L2 : ((List (List Bool)) → Int → Option (Option (List (List Bool))))) (v_47 : Bool) : Option (Option (List (List Bool))) :=
  if v_47 = true then ((at? p1_pairs i_43).bind fun e_48 => (at? p1_pairs (IntKind.i64.wrap (i_43 + 1))).bind fun e_50 => (m_l15_pick e_48 r_1).bind fun r_53 => (m_l15_pick e_50 r_1).bind fun r_58 => (m_graph_Graph_Join g_41 r_53 r_58).bind fun r_63 => kk_L2 r_63.2 (IntKind.i64.wrap (i_43 + 2))) else (some (some g_41))

def m_l15_drawn_L2 (N : Nat) (p1_pairs : (List Int)) (r_1 : Int) : Nat → (List (List Bool)) → Int → Option (Option (List (List Bool)))
  | 0, _, _ => none
  | n_38 + 1, g_41, i_43 => if (decide ((IntKind.i64.wrap (i_43 + 1)) < (p1_pairs.length : Int))) = true then (m_l15_drawn_J4 p1_pairs r_1 g_41 i_43 (m_l15_drawn_L2 N p1_pairs r_1 n_38) (decide (0 < r_1))) else (m_l15_drawn_J4 p1_pairs r_1 g_41 i_43 (m_l15_drawn_L2 N p1_pairs r_1 n_38) false)

def m_l15_drawn_J3 (N : Nat) (p1_pairs : (List Int)) (r_1 : Int) (t_12 : List (List Bool)) (v_37 : Bool) : Option (Option (List (List Bool))) :=
  if v_37 = true then (some none) else (m_l15_drawn_L2 N p1_pairs r_1 N t_12 0)

def m_l15_drawn (N : Nat) (p0_n : Int) (p1_pairs : (List Int)) : Option (Option (List (List Bool))) :=
  (m_l15_pick p0_n 13).bind fun r_1 => (m_graph_New r_1).bind fun r_5 => optC (r_5.1) (if (!decide (r_5.2 = 0)) = true then (m_l15_drawn_J1 N p1_pairs r_1 true) else (m_l15_drawn_J1 N p1_pairs r_1 true)) (fun t_12 => if (!decide (r_5.2 = 0)) = true then (m_l15_drawn_J3 N p1_pairs r_1 t_12 true) else ((m_graph_Graph_Len t_12).bind fun r_72 => m_l15_drawn_J3 N p1_pairs r_1 t_12 (!decide (r_72 = r_1))))

set_option maxRecDepth 100000 in
set_option maxHeartbeats 2000000 in
theorem c_l15_drawn (N : Nat) (c1 : Nat) (col : Col) (w0 : World) (p0_n : Int) (a1 : Option Addr) (cap1 : Nat) (p1_pairs : (List Int)) (h1 : Sl (Rep.int .i64) col w0 a1 cap1 p1_pairs) (r : (Option (List (List Bool)))) (hm : m_l15_drawn N p0_n p1_pairs = some r) :
    Calls Try.prog 13 #[(.int .i64 p0_n), (.slice a1 p1_pairs.length cap1)] w0 (fun e w' => ∃ (col' : Col) (rv1 : Value), e = .returned (rv1) ∧ Grow col w0 col' w' ∧ optP rv1 r (fun (d : List (List Bool)) => ∃ (o9 : GObj), rv1 = .pointer (some ⟨o9.g, 0, none⟩) ∧ GO 85 86 c1 col' w' o9 d)) := by
  refine calls_of1 4 (m := 54) (args := [(.int .i64 p0_n), (.slice a1 p1_pairs.length cap1)]) Try.func13 rfl rfl rfl rfl rfl ?_
  rw [m_l15_drawn.eq_1] at hm
  have hst := St.start col w0
  replace h1 := h1.keep (Stay.start col w0)
  refine wseq ?_
  refine wregion ?_
  refine lv (v := (.pointer none)) rfl rfl (r_assign rfl) ?_
  refine lnil ?_
  refine wseq ?_
  refine wregion ?_
  refine lv (v := (.int .i64 p0_n)) rfl rfl (r_move rfl) ?_
  obtain ⟨r_1, hr_2, hm⟩ := bind_some hm
  refine lc rfl rfl (r_call2 Try.call21 rfl rfl) (c_l15_pick (col0 col) _ p0_n 13 r_1 hr_2) ?_
  rintro _ w_3 ⟨rfl, hg_4⟩
  refine ⟨_, rfl, ?_⟩
  replace hg_4 : Grow (col0 col) w0 (col0 col) w_3 := .of_below hg_4
  replace h1 := h1.gr hg_4
  replace hst := hst.grow hg_4
  refine lv (v := (.int .i64 r_1)) rfl rfl (r_assign rfl) ?_
  refine lnil ?_
  refine wseq ?_
  refine wregion ?_
  refine lv (v := (.int .i64 r_1)) rfl rfl (r_move rfl) ?_
  obtain ⟨r_5, hr_6, hm⟩ := bind_some hm
  refine lc rfl rfl (r_call1 Try.call51 rfl) (c_graph_New 1 (col0 col) _ r_1 r_5 hr_6) ?_
  rintro _ w_9 ⟨col_11, rv_7, rfl, hg_10, rh_8⟩
  refine ⟨_, rfl, ?_⟩
  replace h1 := h1.gr hg_10
  replace hst := hst.grow hg_10
  cases hx_13 : r_5.1 with
  | none =>
    rw [hx_13] at hm rh_8
    replace hm := optC_none hm
    obtain rfl := optP_none rh_8
    clear rh_8
    refine lv (v := (.tuple #[(.pointer none), (.int .i64 r_5.2)])) rfl rfl (r_move rfl) ?_
    refine lv (v := (.pointer none)) rfl rfl (r_extract rfl rfl) ?_
    refine lv (v := (.int .i64 r_5.2)) rfl rfl (r_extract rfl rfl) ?_
    refine lv (v := (.pointer none)) rfl rfl (r_assign rfl) ?_
    refine lv (v := (.int .i64 r_5.2)) rfl rfl (r_assign rfl) ?_
    refine lnil ?_
    refine wseq ?_
    refine wseq ?_
    refine Wp.cut (fun f w_17 => ∃ (col_18 : Col) (v_19 : Bool), m_l15_drawn_J1 N p1_pairs r_1 v_19 = some r ∧ St w0 (col0 col) col_18 w_17 ∧ Sl (Rep.int .i64) col_18 w_17 a1 cap1 p1_pairs ∧ f 0 = (.int .i64 r_1) ∧ f 1 = (.slice a1 p1_pairs.length cap1) ∧ f 26 = (.bool v_19) ∧ f 5 = (.pointer none) ∧ f 1000000 = (enc [])) ?_ ?_
    · intro f w_17 hJ
      obtain ⟨col_18, v_19, hm, hst, h1, hs0, hs1, hs26, hs5, hs1000000⟩ := hJ
      rw [m_l15_drawn_J1.eq_1] at hm
      refine .ld (d := 0) (v := (.int .i64 r_1)) hs0 ?_
      refine .ld (d := 1) (v := (.slice a1 p1_pairs.length cap1)) hs1 ?_
      refine .ld (d := 26) (v := (.bool v_19)) hs26 ?_
      refine .ld (d := 5) (v := (.pointer none)) hs5 ?_
      refine .ld (d := 1000000) (v := (enc [])) hs1000000 ?_
      clear hs0 hs1 hs26 hs5 hs1000000
      refine wcond (v_19) rfl (fun hb => ?_) (fun hb => ?_)
      · rw [if_pos hb] at hm
        clear hb
        refine wseq ?_
        refine wregion ?_
        refine lv (v := (.pointer none)) rfl rfl (r_assign rfl) ?_
        refine lnil ?_
        refine wret ?_
        cases hm
        exact ⟨rfl, colF w0.heap.size col col_18 (fun n => 0), (.pointer none), rfl, hst.fin (fun n => 0), optP_no⟩
      · rw [if_neg (by rw [hb]; decide)] at hm
        clear hb
        refine wskip ?_
        refine wseq ?_
        refine wseq ?_
        refine wregion ?_
        refine lv (v := (.int .i64 0)) rfl rfl (r_assign rfl) ?_
        refine lnil ?_
        refine wblock ?_
        refine wloop (fun n f w_21 => ∃ (col_22 : Col) (i_23 : Int) (n_20 : Nat), n_20 = n ∧ m_l15_drawn_L1 N p1_pairs r_1 n_20 i_23 = some r ∧ St w0 (col0 col) col_22 w_21 ∧ Sl (Rep.int .i64) col_22 w_21 a1 cap1 p1_pairs ∧ f 0 = (.int .i64 r_1) ∧ f 1 = (.slice a1 p1_pairs.length cap1) ∧ f 5 = (.pointer none) ∧ f 7 = (.int .i64 i_23) ∧ f 1000000 = (enc [])) N ⟨col_18, 0, N, rfl, hm, hst, h1, rfl, rfl, rfl, rfl, rfl⟩ ?_
        clear hm; intro n f w_21 hI
        obtain ⟨col_22, i_23, n_20, hn, hm, hst, h1, hs0, hs1, hs5, hs7, hs1000000⟩ := hI
        subst hn
        refine .ld (d := 0) (v := (.int .i64 r_1)) hs0 ?_
        refine .ld (d := 1) (v := (.slice a1 p1_pairs.length cap1)) hs1 ?_
        refine .ld (d := 5) (v := (.pointer none)) hs5 ?_
        refine .ld (d := 7) (v := (.int .i64 i_23)) hs7 ?_
        refine .ld (d := 1000000) (v := (enc [])) hs1000000 ?_
        clear hs0 hs1 hs5 hs7 hs1000000
        cases n_20 with
        | zero => rw [m_l15_drawn_L1.eq_1] at hm; cases hm
        | succ n_20 =>
          rw [m_l15_drawn_L1.eq_2] at hm
          refine wseq ?_
          refine wseq ?_
          refine Wp.cut (fun f w_25 => ∃ (col_26 : Col) (v_27 : Bool), m_l15_drawn_J2 v_27 = some r ∧ St w0 (col0 col) col_26 w_25 ∧ Sl (Rep.int .i64) col_26 w_25 a1 cap1 p1_pairs ∧ f 0 = (.int .i64 r_1) ∧ f 1 = (.slice a1 p1_pairs.length cap1) ∧ f 35 = (.bool v_27) ∧ f 5 = (.pointer none) ∧ f 7 = (.int .i64 i_23) ∧ f 1000000 = (enc [])) ?_ ?_
          · intro f w_25 hJ
            obtain ⟨col_26, v_27, hm, hst, h1, hs0, hs1, hs35, hs5, hs7, hs1000000⟩ := hJ
            rw [m_l15_drawn_J2.eq_1] at hm
            refine .ld (d := 0) (v := (.int .i64 r_1)) hs0 ?_
            refine .ld (d := 1) (v := (.slice a1 p1_pairs.length cap1)) hs1 ?_
            refine .ld (d := 35) (v := (.bool v_27)) hs35 ?_
            refine .ld (d := 5) (v := (.pointer none)) hs5 ?_
            refine .ld (d := 7) (v := (.int .i64 i_23)) hs7 ?_
            refine .ld (d := 1000000) (v := (enc [])) hs1000000 ?_
            clear hs0 hs1 hs35 hs5 hs7 hs1000000
            refine wcond (v_27) rfl (fun hb => ?_) (fun hb => ?_)
            · rw [if_pos hb] at hm
              clear hb
              cases hm
            · rw [if_neg (by rw [hb]; decide)] at hm
              clear hb
              refine wexit (inB_hit ?_)
              refine wseq ?_
              refine wregion ?_
              refine lv (v := (.pointer none)) rfl rfl (r_move rfl) ?_
              refine lv (v := (.pointer none)) rfl rfl (r_assign rfl) ?_
              refine lnil ?_
              refine wret ?_
              cases hm
              exact ⟨rfl, colF w0.heap.size col col_26 (fun n => 0), (.pointer none), rfl, hst.fin (fun n => 0), optP_no⟩
          · refine wregion ?_
            refine lv (v := (.int .i64 i_23)) rfl rfl (r_move rfl) ?_
            refine lv (v := (.int .i64 (IntKind.i64.wrap (i_23 + 1)))) rfl rfl (r_add i_23 1 rfl rfl) ?_
            refine lv (v := (.slice a1 p1_pairs.length cap1)) rfl rfl (r_move rfl) ?_
            refine lv (v := (.int .i64 (p1_pairs.length : Int))) rfl rfl (r_len Try.underlying22 rfl) ?_
            refine lv (v := (.bool (decide ((IntKind.i64.wrap (i_23 + 1)) < (p1_pairs.length : Int))))) rfl rfl (r_lss (IntKind.i64.wrap (i_23 + 1)) (p1_pairs.length : Int) rfl rfl) ?_
            refine lv (v := (.bool (decide ((IntKind.i64.wrap (i_23 + 1)) < (p1_pairs.length : Int))))) rfl rfl (r_move rfl) ?_
            by_cases hg_28 : (decide ((IntKind.i64.wrap (i_23 + 1)) < (p1_pairs.length : Int))) = true
            · rw [if_pos hg_28] at hm
              refine lg (b := decide ((IntKind.i64.wrap (i_23 + 1)) < (p1_pairs.length : Int))) 32 rfl rfl rfl (by rw [hg_28]; rfl) ?_
              refine lv (v := (.int .i64 r_1)) rfl rfl (r_move rfl) ?_
              refine lg (b := decide ((IntKind.i64.wrap (i_23 + 1)) < (p1_pairs.length : Int))) 32 rfl rfl rfl (by rw [hg_28]; rfl) ?_
              refine lv (v := (.bool (decide (0 < r_1)))) rfl rfl (r_gtr r_1 0 rfl rfl) ?_
              refine lv (v := (.bool (decide (0 < r_1)))) rfl rfl (r_pickT (congrArg Value.bool hg_28) rfl) ?_
              refine lnil ?_
              exact ⟨col_22, (decide (0 < r_1)), hm, hst, h1, rfl, rfl, rfl, rfl, rfl, rfl⟩
            · rw [if_neg hg_28] at hm
              replace hg_28 := Bool.eq_false_iff.2 hg_28
              refine lp (b := decide ((IntKind.i64.wrap (i_23 + 1)) < (p1_pairs.length : Int))) 32 rfl rfl rfl rfl (by rw [hg_28]; rfl) ?_
              refine lp (b := decide ((IntKind.i64.wrap (i_23 + 1)) < (p1_pairs.length : Int))) 32 rfl rfl rfl rfl (by rw [hg_28]; rfl) ?_
              refine lv (v := (.bool false)) rfl rfl (r_pickF (congrArg Value.bool hg_28) rfl) ?_
              refine lnil ?_
              exact ⟨col_22, false, hm, hst, h1, rfl, rfl, rfl, rfl, rfl, rfl⟩
    · refine wregion ?_
      refine lv (v := (.int .i64 r_5.2)) rfl rfl (r_move rfl) ?_
      refine lv (v := (.bool (!decide (r_5.2 = 0)))) rfl rfl (r_neq r_5.2 0 rfl rfl) ?_
      refine lv (v := (.bool (!decide (r_5.2 = 0)))) rfl rfl (r_move rfl) ?_
      by_cases hg_29 : (!decide (r_5.2 = 0)) = true
      · rw [if_pos hg_29] at hm
        refine lp (b := !decide (r_5.2 = 0)) 17 rfl rfl rfl rfl (by rw [hg_29]; rfl) ?_
        refine lp (b := !decide (r_5.2 = 0)) 17 rfl rfl rfl rfl (by rw [hg_29]; rfl) ?_
        refine lv (v := (.bool true)) rfl rfl (r_pickT (congrArg Value.bool hg_29) rfl) ?_
        refine lv (v := (.bool true)) rfl rfl (r_move rfl) ?_
        refine lp (b := true) 21 rfl rfl rfl rfl rfl ?_
        refine lp (b := true) 21 rfl rfl rfl rfl rfl ?_
        refine lp (b := true) 21 rfl rfl rfl rfl rfl ?_
        refine lp (b := true) 21 rfl rfl rfl rfl rfl ?_
        refine lv (v := (.bool true)) rfl rfl (r_pickT rfl rfl) ?_
        refine lnil ?_
        exact ⟨col_11, true, hm, hst, h1, rfl, rfl, rfl, rfl, rfl⟩
      · rw [if_neg hg_29] at hm
        replace hg_29 := Bool.eq_false_iff.2 hg_29
        refine lg (b := !decide (r_5.2 = 0)) 17 rfl rfl rfl (by rw [hg_29]; rfl) ?_
        refine lv (v := (.pointer none)) rfl rfl (r_move rfl) ?_
        refine lg (b := !decide (r_5.2 = 0)) 17 rfl rfl rfl (by rw [hg_29]; rfl) ?_
        refine lv (v := (.bool true)) rfl rfl (r_eqlP0 ⟨_, Try.underlying24⟩ rfl rfl) ?_
        refine lv (v := (.bool true)) rfl rfl (r_pickF (congrArg Value.bool hg_29) rfl) ?_
        refine lv (v := (.bool true)) rfl rfl (r_move rfl) ?_
        refine lp (b := true) 21 rfl rfl rfl rfl rfl ?_
        refine lp (b := true) 21 rfl rfl rfl rfl rfl ?_
        refine lp (b := true) 21 rfl rfl rfl rfl rfl ?_
        refine lp (b := true) 21 rfl rfl rfl rfl rfl ?_
        refine lv (v := (.bool true)) rfl rfl (r_pickT rfl rfl) ?_
        refine lnil ?_
        exact ⟨col_11, true, hm, hst, h1, rfl, rfl, rfl, rfl, rfl⟩
  | some t_12 =>
    rw [hx_13] at hm rh_8
    replace hm := optC_some hm
    obtain ⟨o_14, rfl, hG_15⟩ := optP_some rh_8
    refine lv (v := (.tuple #[(.pointer (some ⟨o_14.g, 0, none⟩)), (.int .i64 r_5.2)])) rfl rfl (r_move rfl) ?_
    refine lv (v := (.pointer (some ⟨o_14.g, 0, none⟩))) rfl rfl (r_extract rfl rfl) ?_
    refine lv (v := (.int .i64 r_5.2)) rfl rfl (r_extract rfl rfl) ?_
    refine lv (v := (.pointer (some ⟨o_14.g, 0, none⟩))) rfl rfl (r_assign rfl) ?_
    refine lv (v := (.int .i64 r_5.2)) rfl rfl (r_assign rfl) ?_
    refine lnil ?_
    refine wseq ?_
    refine wseq ?_
    refine Wp.cut (fun f w_35 => ∃ (col_36 : Col) (v_37 : Bool), m_l15_drawn_J3 N p1_pairs r_1 t_12 v_37 = some r ∧ St w0 (col0 col) col_36 w_35 ∧ Sl (Rep.int .i64) col_36 w_35 a1 cap1 p1_pairs ∧ GO 85 86 1 col_36 w_35 o_14 t_12 ∧ f 0 = (.int .i64 r_1) ∧ f 1 = (.slice a1 p1_pairs.length cap1) ∧ f 26 = (.bool v_37) ∧ f 5 = (.pointer (some ⟨o_14.g, 0, none⟩)) ∧ f 1000000 = (enc [])) ?_ ?_
    · intro f w_35 hJ
      obtain ⟨col_36, v_37, hm, hst, h1, hG_15, hs0, hs1, hs26, hs5, hs1000000⟩ := hJ
      rw [m_l15_drawn_J3.eq_1] at hm
      refine .ld (d := 0) (v := (.int .i64 r_1)) hs0 ?_
      refine .ld (d := 1) (v := (.slice a1 p1_pairs.length cap1)) hs1 ?_
      refine .ld (d := 26) (v := (.bool v_37)) hs26 ?_
      refine .ld (d := 5) (v := (.pointer (some ⟨o_14.g, 0, none⟩))) hs5 ?_
      refine .ld (d := 1000000) (v := (enc [])) hs1000000 ?_
      clear hs0 hs1 hs26 hs5 hs1000000
      refine wcond (v_37) rfl (fun hb => ?_) (fun hb => ?_)
      · rw [if_pos hb] at hm
        clear hb
        refine wseq ?_
        refine wregion ?_
        refine lv (v := (.pointer none)) rfl rfl (r_assign rfl) ?_
        refine lnil ?_
        refine wret ?_
        cases hm
        exact ⟨rfl, colF w0.heap.size col col_36 (fun n => 0), (.pointer none), rfl, hst.fin (fun n => 0), optP_no⟩
      · rw [if_neg (by rw [hb]; decide)] at hm
        clear hb
        refine wskip ?_
        refine wseq ?_
        refine wseq ?_
        refine wregion ?_
        refine lv (v := (.int .i64 0)) rfl rfl (r_assign rfl) ?_
        refine lnil ?_
        refine wblock ?_
        refine wloop (fun n f w_39 => ∃ (col_40 : Col) (g_41 : List (List Bool)) (i_43 : Int) (n_38 : Nat), n_38 = n ∧ m_l15_drawn_L2 N p1_pairs r_1 n_38 g_41 i_43 = some r ∧ St w0 (col0 col) col_40 w_39 ∧ Sl (Rep.int .i64) col_40 w_39 a1 cap1 p1_pairs ∧ GO 85 86 1 col_40 w_39 o_14 g_41 ∧ f 0 = (.int .i64 r_1) ∧ f 1 = (.slice a1 p1_pairs.length cap1) ∧ f 5 = (.pointer (some ⟨o_14.g, 0, none⟩)) ∧ f 7 = (.int .i64 i_43) ∧ f 1000000 = (enc [])) N ⟨col_36, t_12, 0, N, rfl, hm, hst, h1, hG_15, rfl, rfl, rfl, rfl, rfl⟩ ?_
        clear hm; intro n f w_39 hI
        obtain ⟨col_40, g_41, i_43, n_38, hn, hm, hst, h1, h_42, hs0, hs1, hs5, hs7, hs1000000⟩ := hI
        subst hn
        refine .ld (d := 0) (v := (.int .i64 r_1)) hs0 ?_
        refine .ld (d := 1) (v := (.slice a1 p1_pairs.length cap1)) hs1 ?_
        refine .ld (d := 5) (v := (.pointer (some ⟨o_14.g, 0, none⟩))) hs5 ?_
        refine .ld (d := 7) (v := (.int .i64 i_43)) hs7 ?_
        refine .ld (d := 1000000) (v := (enc [])) hs1000000 ?_
        clear hs0 hs1 hs5 hs7 hs1000000
        cases n_38 with
        | zero => rw [m_l15_drawn_L2.eq_1] at hm; cases hm
        | succ n_38 =>
          rw [m_l15_drawn_L2.eq_2] at hm
          refine wseq ?_
          refine wseq ?_
          refine Wp.cut (fun f w_45 => ∃ (col_46 : Col) (v_47 : Bool), m_l15_drawn_J4 p1_pairs r_1 g_41 i_43 (m_l15_drawn_L2 N p1_pairs r_1 n_38) v_47 = some r ∧ St w0 (col0 col) col_46 w_45 ∧ Sl (Rep.int .i64) col_46 w_45 a1 cap1 p1_pairs ∧ GO 85 86 1 col_46 w_45 o_14 g_41 ∧ f 0 = (.int .i64 r_1) ∧ f 1 = (.slice a1 p1_pairs.length cap1) ∧ f 35 = (.bool v_47) ∧ f 5 = (.pointer (some ⟨o_14.g, 0, none⟩)) ∧ f 7 = (.int .i64 i_43) ∧ f 1000000 = (enc [])) ?_ ?_
          · intro f w_45 hJ
            obtain ⟨col_46, v_47, hm, hst, h1, h_42, hs0, hs1, hs35, hs5, hs7, hs1000000⟩ := hJ
            rw [m_l15_drawn_J4.eq_1] at hm
            refine .ld (d := 0) (v := (.int .i64 r_1)) hs0 ?_
            refine .ld (d := 1) (v := (.slice a1 p1_pairs.length cap1)) hs1 ?_
            refine .ld (d := 35) (v := (.bool v_47)) hs35 ?_
            refine .ld (d := 5) (v := (.pointer (some ⟨o_14.g, 0, none⟩))) hs5 ?_
            refine .ld (d := 7) (v := (.int .i64 i_43)) hs7 ?_
            refine .ld (d := 1000000) (v := (enc [])) hs1000000 ?_
            clear hs0 hs1 hs35 hs5 hs7 hs1000000
            refine wcond (v_47) rfl (fun hb => ?_) (fun hb => ?_)
            · rw [if_pos hb] at hm
              clear hb
              refine wskip ?_
              refine wseq ?_
              refine wblock ?_
              refine wmix (col := col_46) [(0, 1), (1, 1), (2, 1), (3, 1), (4, 0), (5, 1), (7, 1), (8, 1), (9, 1), (10, 1), (11, 0), (12, 1), (6, 3), (13, 3), (14, 2)] (by kernel_rfl) (by kernel_rfl) ?_
              refine xu (v := (.pointer (some ⟨o_14.g, 0, none⟩))) rfl rfl (fun _ => r_move rfl) ?_
              refine xu (v := (.slice a1 p1_pairs.length cap1)) rfl rfl (fun _ => r_move rfl) ?_
              refine xu (v := (.int .i64 i_43)) rfl rfl (fun _ => r_move rfl) ?_
              obtain ⟨e_48, hj_49, hm⟩ := bind_some hm
              refine xu (v := (sptr a1 (Int.toNat i_43 * 1))) rfl rfl (fun _ => r_idx Try.underlying22 Try.sizeOf3 rfl rfl (at?_some hj_49).1 (at?_some hj_49).2.1 (h1.addr hj_49)) ?_
              refine xv (v := (.int .i64 e_48)) rfl rfl (fun _ hC => r_ld Try.isAgg3 rfl ((h1.gr (Grow.of_below (col := col_46) hC.below)).atInt hj_49)) ?_
              refine xu (v := (.int .i64 r_1)) rfl rfl (fun _ => r_move rfl) ?_
              refine xu (v := (.slice a1 p1_pairs.length cap1)) rfl rfl (fun _ => r_move rfl) ?_
              refine xu (v := (.int .i64 i_43)) rfl rfl (fun _ => r_move rfl) ?_
              refine xu (v := (.int .i64 (IntKind.i64.wrap (i_43 + 1)))) rfl rfl (fun _ => r_add i_43 1 rfl rfl) ?_
              obtain ⟨e_50, hj_51, hm⟩ := bind_some hm
              refine xu (v := (sptr a1 (Int.toNat (IntKind.i64.wrap (i_43 + 1)) * 1))) rfl rfl (fun _ => r_idx Try.underlying22 Try.sizeOf3 rfl rfl (at?_some hj_51).1 (at?_some hj_51).2.1 (h1.addr hj_51)) ?_
              refine xv (v := (.int .i64 e_50)) rfl rfl (fun _ hC => r_ld Try.isAgg3 rfl ((h1.gr (Grow.of_below (col := col_46) hC.below)).atInt hj_51)) ?_
              refine xu (v := (.int .i64 r_1)) rfl rfl (fun _ => r_move rfl) ?_
              refine xe rfl rfl ?_
              intro w_52 hC0
              have hC : Grow col_46 w_45 col_46 w_52 := .of_below hC0.below
              replace h1 := h1.gr hC
              replace h_42 := h_42.gr hC
              replace hst := hst.grow hC
              obtain ⟨r_53, hr_54, hm⟩ := bind_some hm
              refine lc rfl rfl (r_call2 Try.call21 rfl rfl) (c_l15_pick col_46 _ e_48 r_1 r_53 hr_54) ?_
              rintro _ w_55 ⟨rfl, hg_56⟩
              refine ⟨_, rfl, ?_⟩
              replace hg_56 : Grow col_46 w_52 col_46 w_55 := .of_below hg_56
              replace h1 := h1.gr hg_56
              replace h_42 := h_42.gr hg_56
              replace hst := hst.grow hg_56
              refine lnil ⟨fun w' => Grow col_46 w_55 col_46 w', Grow.refl _ _, fun _ _ h => cls hC0 hg_56 h, ?_⟩
              refine xe rfl rfl ?_
              intro w_57 hC0
              have hC : Grow col_46 w_55 col_46 w_57 := .of_below hC0.below
              replace h1 := h1.gr hC
              replace h_42 := h_42.gr hC
              replace hst := hst.grow hC
              obtain ⟨r_58, hr_59, hm⟩ := bind_some hm
              refine lc rfl rfl (r_call2 Try.call21 rfl rfl) (c_l15_pick col_46 _ e_50 r_1 r_58 hr_59) ?_
              rintro _ w_60 ⟨rfl, hg_61⟩
              refine ⟨_, rfl, ?_⟩
              replace hg_61 : Grow col_46 w_57 col_46 w_60 := .of_below hg_61
              replace h1 := h1.gr hg_61
              replace h_42 := h_42.gr hg_61
              replace hst := hst.grow hg_61
              refine lnil ⟨fun w' => Grow col_46 w_60 col_46 w', Grow.refl _ _, fun _ _ h => cls hC0 hg_61 h, ?_⟩
              refine xe rfl rfl ?_
              intro w_62 hC0
              have hC : Grow col_46 w_60 col_46 w_62 := .of_below hC0.below
              replace h1 := h1.gr hC
              replace h_42 := h_42.gr hC
              replace hst := hst.grow hC
              obtain ⟨r_63, hr_64, hm⟩ := bind_some hm
              refine lc rfl rfl (r_call3 Try.call23 rfl rfl rfl) (c_graph_Graph_Join col_46 _ 1 rfl o_14 g_41 r_53 r_58 h_42 r_63 hr_64) ?_
              rintro _ w_66 ⟨col_68, rfl, hg_67, oh_65⟩
              refine ⟨_, rfl, ?_⟩
              replace h1 := h1.kpp hg_67 rfl
              replace hst := hst.kpp hg_67 rfl rfl
              clear h_42
              refine lnil ⟨fun w' => Grow col_68 w_66 col_68 w', Grow.refl _ _, fun h => absurd h (by decide), ?_⟩
              refine xnil ?_
              intro w_69 hC
              replace hC : Grow col_68 w_66 col_68 w_69 := .of_below hC.below
              replace h1 := h1.gr hC
              replace oh_65 := oh_65.gr hC
              replace hst := hst.grow hC
              refine wregion ?_
              refine lv (v := (.int .i64 i_43)) rfl rfl (r_move rfl) ?_
              refine lv (v := (.int .i64 (IntKind.i64.wrap (i_43 + 2)))) rfl rfl (r_add i_43 2 rfl rfl) ?_
              refine lv (v := (.int .i64 (IntKind.i64.wrap (i_43 + 2)))) rfl rfl (r_assign rfl) ?_
              refine lnil ?_
              exact ⟨n_38, by omega, ⟨col_68, r_63.2, (IntKind.i64.wrap (i_43 + 2)), n_38, rfl, hm, hst, h1, oh_65, rfl, rfl, rfl, rfl, rfl⟩⟩
            · rw [if_neg (by rw [hb]; decide)] at hm
              clear hb
              refine wexit (inB_hit ?_)
              refine wseq ?_
              refine wregion ?_
              refine lv (v := (.pointer (some ⟨o_14.g, 0, none⟩))) rfl rfl (r_move rfl) ?_
              refine lv (v := (.pointer (some ⟨o_14.g, 0, none⟩))) rfl rfl (r_assign rfl) ?_
              refine lnil ?_
              refine wret ?_
              cases hm
              exact ⟨rfl, colF w0.heap.size col col_46 (fun n => bif Nat.beq n 1 then c1 else 0), (.pointer (some ⟨o_14.g, 0, none⟩)), rfl, hst.fin (fun n => bif Nat.beq n 1 then c1 else 0), optP_of ⟨_, rfl, hst.finGO (G := (fun n => bif Nat.beq n 1 then c1 else 0)) rfl h_42 (by decide) (by decide) rfl⟩⟩
          · refine wregion ?_
            refine lv (v := (.int .i64 i_43)) rfl rfl (r_move rfl) ?_
            refine lv (v := (.int .i64 (IntKind.i64.wrap (i_43 + 1)))) rfl rfl (r_add i_43 1 rfl rfl) ?_
            refine lv (v := (.slice a1 p1_pairs.length cap1)) rfl rfl (r_move rfl) ?_
            refine lv (v := (.int .i64 (p1_pairs.length : Int))) rfl rfl (r_len Try.underlying22 rfl) ?_
            refine lv (v := (.bool (decide ((IntKind.i64.wrap (i_43 + 1)) < (p1_pairs.length : Int))))) rfl rfl (r_lss (IntKind.i64.wrap (i_43 + 1)) (p1_pairs.length : Int) rfl rfl) ?_
            refine lv (v := (.bool (decide ((IntKind.i64.wrap (i_43 + 1)) < (p1_pairs.length : Int))))) rfl rfl (r_move rfl) ?_
            by_cases hg_70 : (decide ((IntKind.i64.wrap (i_43 + 1)) < (p1_pairs.length : Int))) = true
            · rw [if_pos hg_70] at hm
              refine lg (b := decide ((IntKind.i64.wrap (i_43 + 1)) < (p1_pairs.length : Int))) 32 rfl rfl rfl (by rw [hg_70]; rfl) ?_
              refine lv (v := (.int .i64 r_1)) rfl rfl (r_move rfl) ?_
              refine lg (b := decide ((IntKind.i64.wrap (i_43 + 1)) < (p1_pairs.length : Int))) 32 rfl rfl rfl (by rw [hg_70]; rfl) ?_
              refine lv (v := (.bool (decide (0 < r_1)))) rfl rfl (r_gtr r_1 0 rfl rfl) ?_
              refine lv (v := (.bool (decide (0 < r_1)))) rfl rfl (r_pickT (congrArg Value.bool hg_70) rfl) ?_
              refine lnil ?_
              exact ⟨col_40, (decide (0 < r_1)), hm, hst, h1, h_42, rfl, rfl, rfl, rfl, rfl, rfl⟩
            · rw [if_neg hg_70] at hm
              replace hg_70 := Bool.eq_false_iff.2 hg_70
              refine lp (b := decide ((IntKind.i64.wrap (i_43 + 1)) < (p1_pairs.length : Int))) 32 rfl rfl rfl rfl (by rw [hg_70]; rfl) ?_
              refine lp (b := decide ((IntKind.i64.wrap (i_43 + 1)) < (p1_pairs.length : Int))) 32 rfl rfl rfl rfl (by rw [hg_70]; rfl) ?_
              refine lv (v := (.bool false)) rfl rfl (r_pickF (congrArg Value.bool hg_70) rfl) ?_
              refine lnil ?_
              exact ⟨col_40, false, hm, hst, h1, h_42, rfl, rfl, rfl, rfl, rfl, rfl⟩
    · refine wregion ?_
      refine lv (v := (.int .i64 r_5.2)) rfl rfl (r_move rfl) ?_
      refine lv (v := (.bool (!decide (r_5.2 = 0)))) rfl rfl (r_neq r_5.2 0 rfl rfl) ?_
      refine lv (v := (.bool (!decide (r_5.2 = 0)))) rfl rfl (r_move rfl) ?_
      by_cases hg_71 : (!decide (r_5.2 = 0)) = true
      · rw [if_pos hg_71] at hm
        refine lp (b := !decide (r_5.2 = 0)) 17 rfl rfl rfl rfl (by rw [hg_71]; rfl) ?_
        refine lp (b := !decide (r_5.2 = 0)) 17 rfl rfl rfl rfl (by rw [hg_71]; rfl) ?_
        refine lv (v := (.bool true)) rfl rfl (r_pickT (congrArg Value.bool hg_71) rfl) ?_
        refine lv (v := (.bool true)) rfl rfl (r_move rfl) ?_
        refine lp (b := true) 21 rfl rfl rfl rfl rfl ?_
        refine lp (b := true) 21 rfl rfl rfl rfl rfl ?_
        refine lp (b := true) 21 rfl rfl rfl rfl rfl ?_
        refine lp (b := true) 21 rfl rfl rfl rfl rfl ?_
        refine lv (v := (.bool true)) rfl rfl (r_pickT rfl rfl) ?_
        refine lnil ?_
        exact ⟨col_11, true, hm, hst, h1, hG_15, rfl, rfl, rfl, rfl, rfl⟩
      · rw [if_neg hg_71] at hm
        replace hg_71 := Bool.eq_false_iff.2 hg_71
        refine lg (b := !decide (r_5.2 = 0)) 17 rfl rfl rfl (by rw [hg_71]; rfl) ?_
        refine lv (v := (.pointer (some ⟨o_14.g, 0, none⟩))) rfl rfl (r_move rfl) ?_
        refine lg (b := !decide (r_5.2 = 0)) 17 rfl rfl rfl (by rw [hg_71]; rfl) ?_
        refine lv (v := (.bool false)) rfl rfl (r_eqlP1 ⟨_, Try.underlying24⟩ rfl rfl) ?_
        refine lv (v := (.bool false)) rfl rfl (r_pickF (congrArg Value.bool hg_71) rfl) ?_
        refine lv (v := (.bool false)) rfl rfl (r_move rfl) ?_
        refine lg (b := false) 21 rfl rfl rfl rfl ?_
        refine lv (v := (.pointer (some ⟨o_14.g, 0, none⟩))) rfl rfl (r_move rfl) ?_
        refine lg (b := false) 21 rfl rfl rfl rfl ?_
        obtain ⟨r_72, hr_73, hm⟩ := bind_some hm
        refine lc rfl rfl (r_call1 Try.call15 rfl) (c_graph_Graph_Len col_11 _ 1 (by decide) o_14 t_12 hG_15 r_72 hr_73) ?_
        rintro _ w_74 ⟨rfl, hg_75⟩
        refine ⟨_, rfl, ?_⟩
        replace hg_75 : Grow col_11 w_9 col_11 w_74 := .of_below hg_75
        replace h1 := h1.gr hg_75
        replace hG_15 := hG_15.gr hg_75
        replace hst := hst.grow hg_75
        refine lg (b := false) 21 rfl rfl rfl rfl ?_
        refine lv (v := (.int .i64 r_1)) rfl rfl (r_move rfl) ?_
        refine lg (b := false) 21 rfl rfl rfl rfl ?_
        refine lv (v := (.bool (!decide (r_72 = r_1)))) rfl rfl (r_neq r_72 r_1 rfl rfl) ?_
        refine lv (v := (.bool (!decide (r_72 = r_1)))) rfl rfl (r_pickF rfl rfl) ?_
        refine lnil ?_
        exact ⟨col_11, (!decide (r_72 = r_1)), hm, hst, h1, hG_15, rfl, rfl, rfl, rfl, rfl⟩



structure Tab (n : Nat) (t : List (List Bool)) : Prop where
  len : t.length = n
  sq : ∀ r ∈ t, r.length = n
def row (t : List (List Bool)) (a : Int) : List Bool := (at? t a).getD []
/-- Is there an edge? -/
def ge (t : List (List Bool)) (a b : Int) : Bool := gat (row t a) b

section
variable {n : Nat} {t : List (List Bool)} {a b x y : Int} {r : List Bool}
theorem at?_none {α : Type} {xs : List α} {j : Int} (h : ¬ (0 ≤ j ∧ j < (xs.length : Int))) : at? xs j = none := by
  unfold at?; split
  · rename_i h0; exact List.getElem?_eq_none (by omega)
  · rfl
theorem Tab.at (h : Tab n t) (ha : 0 ≤ a ∧ a < (n : Int)) : at? t a = some (row t a) := by
  have : a.toNat < t.length := by rw [h.len]; omega
  unfold row at?
  rw [if_pos ha.1, List.getElem?_eq_getElem this]; rfl
theorem Tab.rowlen (h : Tab n t) (ha : 0 ≤ a ∧ a < (n : Int)) : (row t a).length = n := h.sq _ (List.mem_of_getElem? (at?_some (h.at ha)).2.2)
theorem row_out (h : Tab n t) (ha : ¬ (0 ≤ a ∧ a < (n : Int))) : row t a = [] := by
  unfold row; rw [at?_none (by rw [h.len]; exact ha)]; rfl
theorem gat_nil : gat [] b = false := by unfold gat; split <;> rfl
theorem Tab.range (h : Tab n t) (he : ge t a b = true) : (0 ≤ a ∧ a < (n : Int)) ∧ 0 ≤ b ∧ b < (n : Int) := by
  by_cases ha : 0 ≤ a ∧ a < (n : Int)
  · refine ⟨ha, ?_⟩
    have := gat_range (row := row t a) he
    rw [h.rowlen ha] at this; omega
  · unfold ge at he; rw [row_out h ha, gat_nil] at he; cases he
theorem Tab.set (h : Tab n t) (i : Nat) (hr : r.length = n) : Tab n (t.set i r) :=
  ⟨by rw [List.length_set]; exact h.len, fun s hs => by rcases List.mem_or_eq_of_mem_set hs with h1 | rfl; exact h.sq _ h1; exact hr⟩
theorem row_set (h : Tab n t) (ha : 0 ≤ a ∧ a < (n : Int)) : row (t.set a.toNat r) x = if x = a then r else row t x := by
  unfold row at?
  by_cases hx : 0 ≤ x
  · rw [if_pos hx, if_pos hx]
    by_cases he : x = a
    · subst he
      rw [if_pos rfl, List.getElem?_set_self (by rw [h.len]; omega)]; rfl
    · rw [if_neg he, List.getElem?_set_ne (by omega)]
  · rw [if_neg hx, if_neg hx, if_neg (by omega)]
theorem ge_set (h : Tab n t) (ha : 0 ≤ a ∧ a < (n : Int)) : ge (t.set a.toNat r) x y = if x = a then gat r y else ge t x y := by
  unfold ge; rw [row_set h ha]; split <;> rfl

/-! ### Join -/
def jn (n : Nat) (t : List (List Bool)) (a b : Int) : Bool := decide ((0 ≤ a ∧ a < (n : Int)) ∧ (0 ≤ b ∧ b < (n : Int)) ∧ a ≠ b) && !ge t a b
def setE (t : List (List Bool)) (a b : Int) : List (List Bool) := (t.set a.toNat (rset (row t a) b true)).set b.toNat (rset (row t b) a true)
def joinT (n : Nat) (t : List (List Bool)) (a b : Int) : List (List Bool) := if jn n t a b = true then setE t a b else t
theorem in_eq (h : Tab n t) : m_graph_Graph_in t a = some (decide (0 ≤ a ∧ a < (n : Int))) := by
  unfold m_graph_Graph_in m_graph_Graph_in_J1
  rw [h.len]
  by_cases h0 : 0 ≤ a
  · rw [if_pos (decide_eq_true h0)]; simp [h0]
  · rw [if_neg (by simpa using h0)]; simp [h0]
theorem Join_eq (h : Tab n t) : m_graph_Graph_Join t a b = some (jn n t a b, joinT n t a b) := by
  unfold m_graph_Graph_Join
  rw [in_eq h, in_eq h]
  simp only [Option.bind_some]
  by_cases ha : 0 ≤ a ∧ a < (n : Int)
  · rw [decide_eq_true ha, if_neg (by decide)]
    by_cases hb : 0 ≤ b ∧ b < (n : Int)
    · rw [decide_eq_true hb, if_neg (by decide)]
      by_cases hab : a = b
      · rw [if_pos (decide_eq_true hab)]
        unfold m_graph_Graph_Join_J1 joinT jn
        rw [if_pos rfl]; simp [hab]
      · rw [if_neg (by simpa using hab), h.at ha]
        simp only [Option.bind_some]
        unfold m_graph_Graph_Join_J1 joinT jn
        rw [decide_eq_true (⟨ha, hb, hab⟩ : (0 ≤ a ∧ a < (n : Int)) ∧ (0 ≤ b ∧ b < (n : Int)) ∧ a ≠ b), Bool.true_and]
        cases hg : gat (row t a) b
        · have hg' : ge t a b = false := hg
          rw [if_neg (by decide), h.at ha, h.at hb, hg']
          simp only [Option.bind_some]
          have h1 : Tab n (t.set a.toNat (rset (row t a) b true)) := h.set _ (by rw [rset_length, h.rowlen ha])
          rw [chk_pos (by rw [h.rowlen ha]; omega), h1.at hb]
          simp only [Option.bind_some]
          rw [row_set h ha, if_neg (Ne.symm hab), chk_pos (by rw [h.rowlen hb]; omega)]
          rfl
        · have hg' : ge t a b = true := hg
          rw [if_pos rfl, hg']; rfl
    · rw [decide_eq_false hb, if_pos (by decide)]
      unfold m_graph_Graph_Join_J1 joinT jn
      rw [if_pos rfl]; simp [hb]
  · rw [decide_eq_false ha, if_pos (by decide)]
    unfold m_graph_Graph_Join_J1 joinT jn
    rw [if_pos rfl]; simp [ha]
theorem Tab.setE (h : Tab n t) (ha : 0 ≤ a ∧ a < (n : Int)) (hb : 0 ≤ b ∧ b < (n : Int)) : Tab n (setE t a b) :=
  (h.set _ (by rw [rset_length, h.rowlen ha])).set _ (by rw [rset_length, h.rowlen hb])
theorem Tab.join (h : Tab n t) : Tab n (joinT n t a b) := by
  unfold joinT
  split
  · rename_i hj
    unfold jn at hj
    simp only [Bool.and_eq_true, decide_eq_true_eq] at hj
    exact h.setE hj.1.1 hj.1.2.1
  · exact h
theorem ge_setE (h : Tab n t) (ha : 0 ≤ a ∧ a < (n : Int)) (hb : 0 ≤ b ∧ b < (n : Int)) (hab : a ≠ b) : ge (setE t a b) x y = (ge t x y || decide (x = a ∧ y = b ∨ x = b ∧ y = a)) := by
  have h1 : Tab n (t.set a.toNat (rset (row t a) b true)) := h.set _ (by rw [rset_length, h.rowlen ha])
  unfold setE
  rw [ge_set h1 hb, ge_set h ha, gat_rset, gat_rset, h.rowlen ha, h.rowlen hb]
  by_cases hxb : x = b
  · subst hxb
    rw [if_pos rfl]
    by_cases hya : y = a
    · subst hya; rw [if_pos rfl]; simp; omega
    · rw [if_neg hya]; simp [hya, Ne.symm hab]; rfl
  · rw [if_neg hxb]
    by_cases hxa : x = a
    · subst hxa
      rw [if_pos rfl]
      by_cases hyb : y = b
      · subst hyb; rw [if_pos rfl]; simp; omega
      · rw [if_neg hyb]; simp [hyb, hxb]; rfl
    · rw [if_neg hxa]; simp [hxa, hxb]
end


section
variable {n : Nat} {t : List (List Bool)} {a b x y : Int} {r : List Bool}
def near (n : Nat) (t : List (List Bool)) (a : Int) : List Int := gkeys (row t a)
theorem near_mem : b ∈ near n t a ↔ ge t a b = true := gkeys_mem
theorem near_len (h : Tab n t) : (near n t a).length ≤ n := by
  unfold near
  refine Nat.le_trans gkeys_length_le ?_
  by_cases ha : 0 ≤ a ∧ a < (n : Int)
  · rw [h.rowlen ha]; exact Nat.le_refl _
  · rw [row_out h ha]; simp
theorem Near_eq (h : Tab n t) (hn : n ≤ 1024) : m_graph_Graph_Near t a = some (near n t a) := by
  unfold m_graph_Graph_Near
  rw [in_eq h]
  simp only [Option.bind_some]
  by_cases ha : 0 ≤ a ∧ a < (n : Int)
  · rw [decide_eq_true ha, if_neg (by decide), h.at ha]
    simp only [Option.bind_some]
    rw [chk_pos (by rw [h.rowlen ha]; omega)]; rfl
  · rw [decide_eq_false ha, if_pos (by decide)]
    unfold near; rw [row_out h ha]; rfl

/-- The pairs of a list's numbers, in order, that have no edge. -/
def wantL (t : List (List Bool)) : List Int → List (Int × Int)
  | [] => []
  | x :: l => (l.filter fun y => !ge t x y).map (fun y => (x, y)) ++ wantL t l
theorem near_range (h : Tab n t) : ∀ x ∈ near n t a, 0 ≤ x ∧ x < (n : Int) := fun x hx => (h.range (near_mem.1 hx)).2
def delN (t : List (List Bool)) (a : Int) (l : List Int) : List (List Bool) := l.foldl (fun t b => t.set b.toNat (rset (row t b) a false)) t
def joinAll (n : Nat) (t : List (List Bool)) (l : List (Int × Int)) : List (List Bool) := l.foldl (fun t p => joinT n t p.1 p.2) t
theorem Tab.del : ∀ {l : List Int} {t : List (List Bool)}, Tab n t → (∀ x ∈ l, 0 ≤ x ∧ x < (n : Int)) → Tab n (delN t a l)
  | [], t, h, _ => h
  | b :: l, t, h, hl => by
    show Tab n (delN (t.set b.toNat (rset (row t b) a false)) a l)
    exact Tab.del (h.set _ (by rw [rset_length, h.rowlen (hl b (by simp))])) fun x hx => hl x (by simp [hx])
theorem Tab.joinAll : ∀ {l : List (Int × Int)} {t : List (List Bool)}, Tab n t → Tab n (joinAll n t l)
  | [], t, h => h
  | p :: l, t, h => Tab.joinAll (l := l) (h.join (a := p.1) (b := p.2))
theorem ge_del : ∀ {l : List Int} {t : List (List Bool)}, Tab n t → (∀ x ∈ l, 0 ≤ x ∧ x < (n : Int)) → ge (delN t a l) x y = (ge t x y && !(decide (y = a) && decide (x ∈ l)))
  | [], t, h, _ => by simp [delN]
  | b :: l, t, h, hl => by
    have hb := hl b (by simp)
    have h1 : Tab n (t.set b.toNat (rset (row t b) a false)) := h.set _ (by rw [rset_length, h.rowlen hb])
    show ge (delN (t.set b.toNat (rset (row t b) a false)) a l) x y = _
    rw [ge_del h1 fun x hx => hl x (by simp [hx]), ge_set h hb]
    by_cases hxb : x = b
    · subst hxb
      rw [if_pos rfl, gat_rset]
      by_cases hya : y = a
      · simp [hya]
      · rw [if_neg hya]; simp [hya]; rfl
    · rw [if_neg hxb]; simp [hxb]
theorem ge_joinAll : ∀ {l : List (Int × Int)} {t : List (List Bool)}, Tab n t → (∀ x y, ge t x y = ge t y x) → (∀ p ∈ l, (0 ≤ p.1 ∧ p.1 < (n : Int)) ∧ (0 ≤ p.2 ∧ p.2 < (n : Int)) ∧ p.1 ≠ p.2) →
    ∀ x y, ge (joinAll n t l) x y = (ge t x y || decide ((x, y) ∈ l ∨ (y, x) ∈ l))
  | [], t, h, _, _, x, y => by simp [joinAll]
  | p :: l, t, h, hs, hl, x, y => by
    obtain ⟨h1, h2, h3⟩ := hl p (by simp)
    have hge : ∀ x y, ge (joinT n t p.1 p.2) x y = (ge t x y || decide (x = p.1 ∧ y = p.2 ∨ x = p.2 ∧ y = p.1)) := fun x y => by
      unfold joinT
      by_cases hj : jn n t p.1 p.2 = true
      · rw [if_pos hj, ge_setE h h1 h2 h3]
      · rw [if_neg hj]
        have : ge t p.1 p.2 = true := by
          unfold jn at hj
          rw [decide_eq_true ⟨h1, h2, h3⟩] at hj
          simpa using hj
        cases hg : ge t x y
        · rw [Bool.false_or]
          symm
          rw [decide_eq_false_iff_not]
          rintro (⟨rfl, rfl⟩ | ⟨rfl, rfl⟩)
          · rw [this] at hg; cases hg
          · rw [hs, this] at hg; cases hg
        · simp
    show ge (joinAll n (joinT n t p.1 p.2) l) x y = _
    rw [ge_joinAll h.join (fun x y => by
      rw [hge, hge, hs x y]
      congr 1
      exact decide_eq_decide.2 ⟨fun h => h.elim (fun h => .inr ⟨h.2, h.1⟩) fun h => .inl ⟨h.2, h.1⟩, fun h => h.elim (fun h => .inr ⟨h.2, h.1⟩) fun h => .inl ⟨h.2, h.1⟩⟩) (fun q hq => hl q (by simp [hq])) x y, hge]
    rw [Bool.or_assoc]
    congr 1
    rw [← Bool.decide_or]
    refine decide_eq_decide.2 ?_
    simp only [List.mem_cons, Prod.ext_iff]
    constructor
    · rintro ((h | h) | h | h)
      · exact .inl (.inl h)
      · exact .inr (.inl ⟨h.2, h.1⟩)
      · exact .inl (.inr h)
      · exact .inr (.inr h)
    · rintro ((h | h) | h | h)
      · exact .inl (.inl h)
      · exact .inr (.inl h)
      · exact .inl (.inr ⟨h.2, h.1⟩)
      · exact .inr (.inr h)
end


/-- How many numbers of a list are below one. -/
def lb (xs : List Int) (a : Int) : Nat := (xs.filter fun x => decide (x < a)).length
section
variable {n N : Nat} {t : List (List Bool)} {a : Int}
end


/-- A table of edges: each both ways round, none from a point to itself. -/
structure Gr (n : Nat) (t : List (List Bool)) : Prop where
  tab : Tab n t
  sym : ∀ x y, ge t x y = ge t y x
  irr : ∀ x, ge t x x = false
section
variable {n N : Nat} {t : List (List Bool)} {a b : Int}
theorem pick_eq {i : Int} {n : Nat} (hn : 0 < n ∧ n ≤ 1048576) : ∃ k : Nat, k < n ∧ m_l15_pick i (n : Int) = some (k : Int) := by
  unfold m_l15_pick
  rw [chk_pos (by omega)]
  have h1 := Int.tmod_lt_of_pos i (show (0 : Int) < n by omega)
  have h2 : -(n : Int) < Int.tmod i n := by
    have := Int.lt_tmod_of_pos i (show (0 : Int) < n by omega); omega
  unfold m_l15_pick_J1
  by_cases h : Int.tmod i n < 0
  · rw [if_pos (decide_eq_true h), w64 (by omega)]
    exact ⟨(Int.tmod i n + n).toNat, by omega, by congr 1; omega⟩
  · rw [if_neg (by simpa using h)]
    exact ⟨(Int.tmod i n).toNat, by omega, by congr 1; omega⟩
theorem Gr.none : Gr n (List.replicate n (List.replicate n false)) := by
  have hT : Tab n (List.replicate n (List.replicate n false)) := ⟨by simp, fun r hr => by rw [List.eq_of_mem_replicate hr]; simp⟩
  have h0 : ∀ x y, ge (List.replicate n (List.replicate n false)) x y = false := fun x y => by
    unfold ge row at?
    split
    · rw [List.getElem?_replicate]
      split
      · exact gat_replicate
      · exact gat_nil
    · exact gat_nil
  exact ⟨hT, fun x y => by rw [h0, h0], fun x => h0 x x⟩
theorem Gr.join (h : Gr n t) : Gr n (joinT n t a b) := by
  refine ⟨h.tab.join, ?_, ?_⟩ <;> unfold joinT
  · intro x y
    split
    · rename_i hj
      unfold jn at hj
      simp only [Bool.and_eq_true, decide_eq_true_eq] at hj
      rw [ge_setE h.tab hj.1.1 hj.1.2.1 hj.1.2.2, ge_setE h.tab hj.1.1 hj.1.2.1 hj.1.2.2, h.sym x y]
      congr 1
      exact decide_eq_decide.2 ⟨fun h => h.elim (fun h => .inr ⟨h.2, h.1⟩) fun h => .inl ⟨h.2, h.1⟩, fun h => h.elim (fun h => .inr ⟨h.2, h.1⟩) fun h => .inl ⟨h.2, h.1⟩⟩
    · exact h.sym x y
  · intro x
    split
    · rename_i hj
      unfold jn at hj
      simp only [Bool.and_eq_true, decide_eq_true_eq] at hj
      rw [ge_setE h.tab hj.1.1 hj.1.2.1 hj.1.2.2, h.irr x, Bool.false_or, decide_eq_false_iff_not]
      rintro (⟨rfl, h2⟩ | ⟨rfl, h2⟩)
      · exact hj.1.2.2 h2
      · exact hj.1.2.2 h2.symm
    · exact h.irr x
theorem drawn_L2 (pairs : List Int) (hp : pairs.length ≤ 9223372036854775000) (n : Nat) (hn : n ≤ 12) : ∀ (f i : Nat) (t : List (List Bool)), Gr n t → i ≤ pairs.length + 1 → pairs.length + 1 - i < f →
    ∃ t', Gr n t' ∧ m_l15_drawn_L2 N pairs (n : Int) f t (i : Int) = some (some t')
  | 0, i, t, _, _, h => by omega
  | f + 1, i, t, hg, hi, hf => by
    rw [m_l15_drawn_L2.eq_2, wS (by omega)]
    unfold m_l15_drawn_J4
    by_cases h1 : i + 1 < pairs.length
    · rw [if_pos (decide_eq_true (by omega))]
      by_cases h0 : 0 < n
      · rw [if_pos (decide_eq_true (by omega)), at?_lt (by omega)]
        simp only [Option.bind_some]
        rw [wS (by omega), at?_lt h1]
        simp only [Option.bind_some]
        obtain ⟨k, hk, e1⟩ := pick_eq (i := pairs[i]) ⟨h0, by omega⟩
        obtain ⟨l, hl, e2⟩ := pick_eq (i := pairs[i + 1]) ⟨h0, by omega⟩
        rw [e1, e2]
        simp only [Option.bind_some]
        rw [Join_eq hg.tab]
        simp only [Option.bind_some]
        rw [show IntKind.i64.wrap ((i : Int) + 2) = ((i + 2 : Nat) : Int) by rw [w64 (by omega)]; rfl]
        exact drawn_L2 pairs hp n hn f (i + 2) _ hg.join (by omega) (by omega)
      · rw [if_neg (by simp; omega)]
        exact ⟨t, hg, rfl⟩
    · rw [if_neg (by simp; omega), if_neg (by decide)]
      exact ⟨t, hg, rfl⟩
theorem drawn_eq (pairs : List Int) (hp : pairs.length ≤ 9223372036854775000) (hN : pairs.length + 1 < N) (k : Int) : ∃ n t, n ≤ 12 ∧ Gr n t ∧ m_l15_drawn N k pairs = some (some t) := by
  obtain ⟨n, hn, e⟩ := pick_eq (i := k) (n := 13) (by omega)
  unfold m_l15_drawn
  rw [show (13 : Int) = ((13 : Nat) : Int) from rfl, e]
  simp only [Option.bind_some]
  unfold m_graph_New
  rw [if_neg (by omega)]
  simp only [Option.bind_some, Int.toNat_natCast]
  obtain ⟨t', h1, h2⟩ := drawn_L2 (N := N) pairs hp n (by omega) N 0 _ Gr.none (Nat.zero_le _) (by omega)
  refine ⟨n, t', by omega, h1, ?_⟩
  unfold optC m_graph_Graph_Len m_l15_drawn_J3
  simp only [Option.bind_some, List.length_replicate]
  simpa using h2

/-! ### Chordal -/
/-- A point that is not out, and joins nothing. -/
def ready (n : Nat) (t : List (List Bool)) (out : List Bool) (a : Nat) : Bool := !(out.getD a false) && (wantL t (near n t a)).isEmpty
end



def m_graph_Graph_Has_J1 (v_13 : Bool) : Option Bool :=
  some v_13

def m_graph_Graph_Has (p0_g : List (List Bool)) (p1_a : Int) (p2_b : Int) : Option Bool :=
  (m_graph_Graph_in p0_g p1_a).bind fun r_14 => if r_14 = true then ((at? p0_g p1_a).bind fun row_19 => m_graph_Graph_Has_J1 (gat row_19 p2_b)) else (m_graph_Graph_Has_J1 false)

set_option maxRecDepth 100000 in
set_option maxHeartbeats 2000000 in
theorem c_graph_Graph_Has (col : Col) (w0 : World) (qc0 : Nat) (hqqc0 : qc0 ≠ 0) (o0 : GObj) (p0_g : List (List Bool)) (p1_a : Int) (p2_b : Int) (h0 : GO 85 86 qc0 col w0 o0 p0_g) (r : Bool) (hm : m_graph_Graph_Has p0_g p1_a p2_b = some r) :
    Calls Try.prog 24 #[(.pointer (some ⟨o0.g, 0, none⟩)), (.int .i64 p1_a), (.int .i64 p2_b)] w0 (fun e w' => e = .returned ((.bool r)) ∧ Below w0.heap.size w0 w') := by
  refine calls_of1 6 (m := 21) (args := [(.pointer (some ⟨o0.g, 0, none⟩)), (.int .i64 p1_a), (.int .i64 p2_b)]) Try.func24 rfl rfl rfl rfl rfl ?_
  rw [m_graph_Graph_Has.eq_1] at hm
  have hst := St.start col w0
  replace h0 := h0.start0 hqqc0
  refine wseq ?_
  refine wregion ?_
  refine lv (v := (.bool false)) rfl rfl (r_assign rfl) ?_
  refine lnil ?_
  refine wseq ?_
  refine Wp.cut (fun f w_11 => ∃ (col_12 : Col) (v_13 : Bool), m_graph_Graph_Has_J1 v_13 = some r ∧ St w0 (col0 col) col_12 w_11 ∧ f 6 = (.bool v_13) ∧ f 1000000 = (enc [])) ?_ ?_
  · intro f w_11 hJ
    obtain ⟨col_12, v_13, hm, hst, hs6, hs1000000⟩ := hJ
    rw [m_graph_Graph_Has_J1.eq_1] at hm
    refine .ld (d := 6) (v := (.bool v_13)) hs6 ?_
    refine .ld (d := 1000000) (v := (enc [])) hs1000000 ?_
    clear hs6 hs1000000
    refine wret ?_
    cases hm
    exact ⟨rfl, rfl, hst.below⟩
  · refine wregion ?_
    refine lv (v := (.pointer (some ⟨o0.g, 0, none⟩))) rfl rfl (r_move rfl) ?_
    refine lv (v := (.int .i64 p1_a)) rfl rfl (r_move rfl) ?_
    obtain ⟨r_14, hr_15, hm⟩ := bind_some hm
    refine lc rfl rfl (r_call2 Try.call54 rfl rfl) (c_graph_Graph_in (col0 col) _ 999 (by decide) o0 p0_g p1_a h0 r_14 hr_15) ?_
    rintro _ w_16 ⟨rfl, hg_17⟩
    refine ⟨_, rfl, ?_⟩
    replace hg_17 : Grow (col0 col) w0 (col0 col) w_16 := .of_below hg_17
    replace h0 := h0.gr hg_17
    replace hst := hst.grow hg_17
    refine lv (v := (.bool r_14)) rfl rfl (r_move rfl) ?_
    by_cases hg_18 : r_14 = true
    · rw [if_pos hg_18] at hm
      refine lg (b := r_14) 10 rfl rfl rfl (by rw [hg_18]; rfl) ?_
      refine lv (v := (.pointer (some ⟨o0.g, 0, none⟩))) rfl rfl (r_move rfl) ?_
      refine lg (b := r_14) 10 rfl rfl rfl (by rw [hg_18]; rfl) ?_
      refine lv (v := (.pointer (some ⟨o0.g, 0, none⟩))) rfl rfl (r_nilCheck rfl) ?_
      refine lg (b := r_14) 10 rfl rfl rfl (by rw [hg_18]; rfl) ?_
      refine lv (v := (.pointer ((some (⟨o0.g, 0, none⟩ : Addr)).map (·.add 0)))) rfl rfl (r_fieldAddr (sz := 1) (off := 0) Try.underlying85 rfl Try.sizeOf83 (by decide) rfl rfl ⟨_, _, rfl⟩) ?_
      refine lg (b := r_14) 10 rfl rfl rfl (by rw [hg_18]; rfl) ?_
      refine lv (v := (.slice o0.a p0_g.length o0.cap)) rfl rfl (r_ld Try.isAgg83 rfl ((h0.box.atN).nth (q := 0) (v := (.slice o0.a p0_g.length o0.cap)) rfl)) ?_
      refine lg (b := r_14) 10 rfl rfl rfl (by rw [hg_18]; rfl) ?_
      refine lv (v := (.int .i64 p1_a)) rfl rfl (r_move rfl) ?_
      refine lg (b := r_14) 10 rfl rfl rfl (by rw [hg_18]; rfl) ?_
      obtain ⟨row_19, hj_20, hm⟩ := bind_some hm
      obtain ⟨b_21, hb_22, _, hb_23⟩ := h0.blk hj_20
      refine lv (v := (sptr o0.a (Int.toNat p1_a * 1))) rfl rfl (r_idx Try.underlying83 Try.sizeOf86 rfl rfl (at?_some hj_20).1 (at?_some hj_20).2.1 (h0.addr hb_22)) ?_
      refine lg (b := r_14) 10 rfl rfl rfl (by rw [hg_18]; rfl) ?_
      refine lv (v := (.map (some b_21))) rfl rfl (r_ld Try.isAgg86 rfl (h0.at1 hb_22)) ?_
      refine lg (b := r_14) 10 rfl rfl rfl (by rw [hg_18]; rfl) ?_
      refine lv (v := (.int .i64 p2_b)) rfl rfl (r_move rfl) ?_
      refine lg (b := r_14) 10 rfl rfl rfl (by rw [hg_18]; rfl) ?_
      refine lv (v := (.bool (gat row_19 p2_b))) rfl rfl (r_glookup_g (h0.maps _ _ _ hb_23 (at?_some hj_20).2.2) Try.underlying86 Try.underlying3 Try.zeroValue4 rfl rfl) ?_
      refine lv (v := (.bool (gat row_19 p2_b))) rfl rfl (r_pickT (congrArg Value.bool hg_18) rfl) ?_
      refine lv (v := (.bool (gat row_19 p2_b))) rfl rfl (r_assign rfl) ?_
      refine lnil ?_
      exact ⟨(col0 col), (gat row_19 p2_b), hm, hst, rfl, rfl⟩
    · rw [if_neg hg_18] at hm
      replace hg_18 := Bool.eq_false_iff.2 hg_18
      refine lp (b := r_14) 10 rfl rfl rfl rfl (by rw [hg_18]; rfl) ?_
      refine lp (b := r_14) 10 rfl rfl rfl rfl (by rw [hg_18]; rfl) ?_
      refine lp (b := r_14) 10 rfl rfl rfl rfl (by rw [hg_18]; rfl) ?_
      refine lp (b := r_14) 10 rfl rfl rfl rfl (by rw [hg_18]; rfl) ?_
      refine lp (b := r_14) 10 rfl rfl rfl rfl (by rw [hg_18]; rfl) ?_
      refine lp (b := r_14) 10 rfl rfl rfl rfl (by rw [hg_18]; rfl) ?_
      refine lp (b := r_14) 10 rfl rfl rfl rfl (by rw [hg_18]; rfl) ?_
      refine lp (b := r_14) 10 rfl rfl rfl rfl (by rw [hg_18]; rfl) ?_
      refine lp (b := r_14) 10 rfl rfl rfl rfl (by rw [hg_18]; rfl) ?_
      refine lv (v := (.bool false)) rfl rfl (r_pickF (congrArg Value.bool hg_18) rfl) ?_
      refine lv (v := (.bool false)) rfl rfl (r_assign rfl) ?_
      refine lnil ?_
      exact ⟨(col0 col), false, hm, hst, rfl, rfl⟩



set_option maxRecDepth 100000 in
theorem el47_69 : ElemOk Try.prog 47 2 16 := ⟨Try.t47, _, rfl, rfl, rfl, rfl, rfl⟩

def m_graph_Graph_list_J1 (kk_L2 : ((List (Int × Int)) → Option (List (Int × Int)))) (l_29 : List (Int × Int)) : Option (List (Int × Int)) :=
  kk_L2 l_29

def m_graph_Graph_list_L2 (v_4 : Int) (kk_L1 : (Int → (List (Int × Int)) → Option (List (Int × Int)))) : List Int → (List (Int × Int)) → Option (List (Int × Int))
  | [], l_21 => kk_L1 (IntKind.i64.wrap (v_4 + 1)) l_21
  | x_25 :: l_26, l_21 => if (decide (v_4 < x_25)) = true then (chk ((l_21.length + [(v_4, x_25)].length) * 16 ≤ 140737488355328 ∧ l_21.length + [(v_4, x_25)].length ≤ maxLen) (m_graph_Graph_list_J1 (m_graph_Graph_list_L2 v_4 kk_L1 l_26) (l_21 ++ [(v_4, x_25)]))) else (m_graph_Graph_list_J1 (m_graph_Graph_list_L2 v_4 kk_L1 l_26) l_21)

def m_graph_Graph_list_L1 (N : Nat) (p0_g : List (List Bool)) : Nat → Int → (List (Int × Int)) → Option (List (Int × Int))
  | 0, _, _ => none
  | n_1 + 1, v_4, l_5 => if (decide (v_4 < (p0_g.length : Int))) = true then ((m_graph_Graph_Near p0_g v_4).bind fun r_9 => m_graph_Graph_list_L2 v_4 (m_graph_Graph_list_L1 N p0_g n_1) r_9 l_5) else (some l_5)

def m_graph_Graph_list (N : Nat) (p0_g : List (List Bool)) : Option (List (Int × Int)) :=
  m_graph_Graph_list_L1 N p0_g N 0 ([] : List (Int × Int))

set_option maxRecDepth 100000 in
set_option maxHeartbeats 2000000 in
theorem c_graph_Graph_list (N : Nat) (c1 : Nat) (col : Col) (w0 : World) (qc0 : Nat) (hqqc0 : qc0 ≠ 0) (o0 : GObj) (p0_g : List (List Bool)) (h0 : GO 85 86 qc0 col w0 o0 p0_g) (r : (List (Int × Int))) (hm : m_graph_Graph_list N p0_g = some r) :
    Calls Try.prog 69 #[(.pointer (some ⟨o0.g, 0, none⟩))] w0 (fun e w' => ∃ (col' : Col) (ra1 : Option Addr) (rc2 : Nat), e = .returned ((.slice ra1 r.length rc2)) ∧ Grow col w0 col' w' ∧ Own (Rep.pair (Rep.int .i64) (Rep.int .i64)) 47 c1 col' w' ra1 rc2 r) := by
  refine calls_of1 2 (m := 35) (args := [(.pointer (some ⟨o0.g, 0, none⟩))]) Try.func69 rfl rfl rfl rfl rfl ?_
  rw [m_graph_Graph_list.eq_1] at hm
  have hst := St.start col w0
  replace h0 := h0.start0 hqqc0
  refine wseq ?_
  refine wregion ?_
  refine lv (v := (.slice none (([] : List (Int × Int)).length) 0)) rfl rfl (r_assign rfl) ?_
  refine lnil ?_
  refine wseq ?_
  refine wregion ?_
  refine lv (v := (.slice none (([] : List (Int × Int)).length) 0)) rfl rfl (r_assign rfl) ?_
  refine lnil ?_
  refine wseq ?_
  refine wseq ?_
  refine wregion ?_
  refine lv (v := (.pointer (some ⟨o0.g, 0, none⟩))) rfl rfl (r_move rfl) ?_
  refine lv (v := (.pointer (some ⟨o0.g, 0, none⟩))) rfl rfl (r_nilCheck rfl) ?_
  refine lv (v := (.pointer ((some (⟨o0.g, 0, none⟩ : Addr)).map (·.add 0)))) rfl rfl (r_fieldAddr (sz := 1) (off := 0) Try.underlying85 rfl Try.sizeOf83 (by decide) rfl rfl ⟨_, _, rfl⟩) ?_
  refine lv (v := (.slice o0.a p0_g.length o0.cap)) rfl rfl (r_ld Try.isAgg83 rfl ((h0.box.atN).nth (q := 0) (v := (.slice o0.a p0_g.length o0.cap)) rfl)) ?_
  refine lv (v := (.int .i64 (p0_g.length : Int))) rfl rfl (r_len Try.underlying83 rfl) ?_
  refine lv (v := (.int .i64 0)) rfl rfl (r_move rfl) ?_
  refine lnil ?_
  refine wblock ?_
  refine wloop (fun n f w_2 => ∃ (col_3 : Col) (v_4 : Int) (a_6 : Option Addr) (cap_7 : Nat) (l_5 : List (Int × Int)) (n_1 : Nat), n_1 = n ∧ m_graph_Graph_list_L1 N p0_g n_1 v_4 l_5 = some r ∧ St w0 (col0 col) col_3 w_2 ∧ GO 85 86 999 col_3 w_2 o0 p0_g ∧ Own (Rep.pair (Rep.int .i64) (Rep.int .i64)) 47 1 col_3 w_2 a_6 cap_7 l_5 ∧ f 0 = (.pointer (some ⟨o0.g, 0, none⟩)) ∧ f 11 = (.int .i64 (p0_g.length : Int)) ∧ f 12 = (.int .i64 v_4) ∧ f 3 = (.slice a_6 l_5.length cap_7) ∧ f 1000000 = (enc [])) N ⟨(col0 col), 0, none, 0, ([] : List (Int × Int)), N, rfl, hm, hst, h0, Own.nil, rfl, rfl, rfl, rfl, rfl⟩ ?_
  clear hm; intro n f w_2 hI
  obtain ⟨col_3, v_4, a_6, cap_7, l_5, n_1, hn, hm, hst, h0, h_8, hs0, hs11, hs12, hs3, hs1000000⟩ := hI
  subst hn
  refine .ld (d := 0) (v := (.pointer (some ⟨o0.g, 0, none⟩))) hs0 ?_
  refine .ld (d := 11) (v := (.int .i64 (p0_g.length : Int))) hs11 ?_
  refine .ld (d := 12) (v := (.int .i64 v_4)) hs12 ?_
  refine .ld (d := 3) (v := (.slice a_6 l_5.length cap_7)) hs3 ?_
  refine .ld (d := 1000000) (v := (enc [])) hs1000000 ?_
  clear hs0 hs11 hs12 hs3 hs1000000
  cases n_1 with
  | zero => rw [m_graph_Graph_list_L1.eq_1] at hm; cases hm
  | succ n_1 =>
    rw [m_graph_Graph_list_L1.eq_2] at hm
    refine wseq ?_
    refine wregion ?_
    refine lv (v := (.bool (decide (v_4 < (p0_g.length : Int))))) rfl rfl (r_lss v_4 (p0_g.length : Int) rfl rfl) ?_
    refine lnil ?_
    refine wseq ?_
    refine wcond (decide (v_4 < (p0_g.length : Int))) rfl (fun hb => ?_) (fun hb => ?_)
    · rw [if_pos hb] at hm
      clear hb
      refine wskip ?_
      refine wseq ?_
      refine wblock ?_
      refine wseq ?_
      refine wregion ?_
      refine lv (v := (.int .i64 v_4)) rfl rfl (r_move rfl) ?_
      refine lv (v := (.int .i64 v_4)) rfl rfl (r_assign rfl) ?_
      refine lnil ?_
      refine wseq ?_
      refine wregion ?_
      refine lv (v := (.pointer (some ⟨o0.g, 0, none⟩))) rfl rfl (r_move rfl) ?_
      refine lv (v := (.int .i64 v_4)) rfl rfl (r_move rfl) ?_
      obtain ⟨r_9, hr_10, hm⟩ := bind_some hm
      refine lc rfl rfl (r_call2 Try.call22 rfl rfl) (c_graph_Graph_Near 2 col_3 _ 999 (by decide) o0 p0_g v_4 h0 r_9 hr_10) ?_
      rintro _ w_14 ⟨col_16, ra_11, rc_12, rfl, hg_15, rh_13⟩
      refine ⟨_, rfl, ?_⟩
      replace h0 := h0.gr hg_15
      replace h_8 := h_8.gr hg_15
      replace hst := hst.grow hg_15
      refine lv (v := (.int .i64 (r_9.length : Int))) rfl rfl (r_len Try.underlying22 rfl) ?_
      refine lv (v := (.int .i64 0)) rfl rfl (r_move rfl) ?_
      refine lnil ?_
      refine wblock ?_
      refine wloop (fun n f w_19 => ∃ (col_20 : Col) (k_17 : Nat) (a_22 : Option Addr) (cap_23 : Nat) (l_21 : List (Int × Int)) (l_18 : List Int), n = l_18.length ∧ r_9.drop k_17 = l_18 ∧ m_graph_Graph_list_L2 v_4 (m_graph_Graph_list_L1 N p0_g n_1) l_18 l_21 = some r ∧ St w0 (col0 col) col_20 w_19 ∧ GO 85 86 999 col_20 w_19 o0 p0_g ∧ Own (Rep.int .i64) 3 2 col_20 w_19 ra_11 rc_12 r_9 ∧ Own (Rep.pair (Rep.int .i64) (Rep.int .i64)) 47 1 col_20 w_19 a_22 cap_23 l_21 ∧ f 19 = (.int .i64 (k_17 : Int)) ∧ f 0 = (.pointer (some ⟨o0.g, 0, none⟩)) ∧ f 11 = (.int .i64 (p0_g.length : Int)) ∧ f 12 = (.int .i64 v_4) ∧ f 17 = (.slice ra_11 r_9.length rc_12) ∧ f 18 = (.int .i64 (r_9.length : Int)) ∧ f 3 = (.slice a_22 l_21.length cap_23) ∧ f 4 = (.int .i64 v_4) ∧ f 1000000 = (enc [])) r_9.length ⟨col_16, 0, a_6, cap_7, l_5, r_9, rfl, rfl, hm, hst, h0, rh_13, h_8, rfl, rfl, rfl, rfl, rfl, rfl, rfl, rfl, rfl⟩ ?_
      clear hm; intro n f w_19 hI
      obtain ⟨col_20, k_17, a_22, cap_23, l_21, l_18, hn, hl, hm, hst, h0, rh_13, h_24, hs19, hs0, hs11, hs12, hs17, hs18, hs3, hs4, hs1000000⟩ := hI
      subst hn
      refine .ld (d := 19) (v := (.int .i64 (k_17 : Int))) hs19 ?_
      refine .ld (d := 0) (v := (.pointer (some ⟨o0.g, 0, none⟩))) hs0 ?_
      refine .ld (d := 11) (v := (.int .i64 (p0_g.length : Int))) hs11 ?_
      refine .ld (d := 12) (v := (.int .i64 v_4)) hs12 ?_
      refine .ld (d := 17) (v := (.slice ra_11 r_9.length rc_12)) hs17 ?_
      refine .ld (d := 18) (v := (.int .i64 (r_9.length : Int))) hs18 ?_
      refine .ld (d := 3) (v := (.slice a_22 l_21.length cap_23)) hs3 ?_
      refine .ld (d := 4) (v := (.int .i64 v_4)) hs4 ?_
      refine .ld (d := 1000000) (v := (enc [])) hs1000000 ?_
      clear hs19 hs0 hs11 hs12 hs17 hs18 hs3 hs4 hs1000000
      cases l_18 with
      | nil =>
        have hk : ¬ ((k_17 : Int) < (r_9.length : Int)) := by have := List.drop_eq_nil_iff.1 hl; omega
        have hkb := decide_eq_false hk
        rw [m_graph_Graph_list_L2.eq_1] at hm
        refine wseq ?_
        refine wregion ?_
        refine lv (v := (.bool (decide ((k_17 : Int) < (r_9.length : Int))))) rfl rfl (r_lss (k_17 : Int) (r_9.length : Int) rfl rfl) ?_
        refine lnil ?_
        refine wseq ?_
        refine wcondF (congrArg Value.bool hkb) ?_
        refine wexit (inB_hit ?_)
        refine wregion ?_
        refine lv (v := (.int .i64 (IntKind.i64.wrap (v_4 + 1)))) rfl rfl (r_add v_4 1 rfl rfl) ?_
        refine lv (v := (.int .i64 (IntKind.i64.wrap (v_4 + 1)))) rfl rfl (r_move rfl) ?_
        refine lnil ?_
        exact ⟨n_1, by omega, ⟨col_20, (IntKind.i64.wrap (v_4 + 1)), a_22, cap_23, l_21, n_1, rfl, hm, hst, h0, h_24, rfl, rfl, rfl, rfl, rfl⟩⟩
      | cons x_25 l_26 =>
        obtain ⟨hat, hl2, hlt⟩ := drop_get hl
        have hk : (k_17 : Int) < (r_9.length : Int) := by omega
        have hkb := decide_eq_true hk
        rw [m_graph_Graph_list_L2.eq_2] at hm
        refine wseq ?_
        refine wregion ?_
        refine lv (v := (.bool (decide ((k_17 : Int) < (r_9.length : Int))))) rfl rfl (r_lss (k_17 : Int) (r_9.length : Int) rfl rfl) ?_
        refine lnil ?_
        refine wseq ?_
        refine wcondT (congrArg Value.bool hkb) ?_
        refine wskip ?_
        refine wseq ?_
        refine Wp.cut (fun f w_27 => ∃ (col_28 : Col) (a_30 : Option Addr) (cap_31 : Nat) (l_29 : List (Int × Int)), m_graph_Graph_list_J1 (m_graph_Graph_list_L2 v_4 (m_graph_Graph_list_L1 N p0_g n_1) l_26) l_29 = some r ∧ St w0 (col0 col) col_28 w_27 ∧ GO 85 86 999 col_28 w_27 o0 p0_g ∧ Own (Rep.int .i64) 3 2 col_28 w_27 ra_11 rc_12 r_9 ∧ Own (Rep.pair (Rep.int .i64) (Rep.int .i64)) 47 1 col_28 w_27 a_30 cap_31 l_29 ∧ f 0 = (.pointer (some ⟨o0.g, 0, none⟩)) ∧ f 11 = (.int .i64 (p0_g.length : Int)) ∧ f 12 = (.int .i64 v_4) ∧ f 17 = (.slice ra_11 r_9.length rc_12) ∧ f 18 = (.int .i64 (r_9.length : Int)) ∧ f 19 = (.int .i64 (k_17 : Int)) ∧ f 3 = (.slice a_30 l_29.length cap_31) ∧ f 4 = (.int .i64 v_4) ∧ f 1000000 = (enc [])) ?_ ?_
        · intro f w_27 hJ
          obtain ⟨col_28, a_30, cap_31, l_29, hm, hst, h0, rh_13, h_32, hs0, hs11, hs12, hs17, hs18, hs19, hs3, hs4, hs1000000⟩ := hJ
          rw [m_graph_Graph_list_J1.eq_1] at hm
          refine .ld (d := 0) (v := (.pointer (some ⟨o0.g, 0, none⟩))) hs0 ?_
          refine .ld (d := 11) (v := (.int .i64 (p0_g.length : Int))) hs11 ?_
          refine .ld (d := 12) (v := (.int .i64 v_4)) hs12 ?_
          refine .ld (d := 17) (v := (.slice ra_11 r_9.length rc_12)) hs17 ?_
          refine .ld (d := 18) (v := (.int .i64 (r_9.length : Int))) hs18 ?_
          refine .ld (d := 19) (v := (.int .i64 (k_17 : Int))) hs19 ?_
          refine .ld (d := 3) (v := (.slice a_30 l_29.length cap_31)) hs3 ?_
          refine .ld (d := 4) (v := (.int .i64 v_4)) hs4 ?_
          refine .ld (d := 1000000) (v := (enc [])) hs1000000 ?_
          clear hs0 hs11 hs12 hs17 hs18 hs19 hs3 hs4 hs1000000
          refine wregion ?_
          refine lv (v := (.int .i64 (IntKind.i64.wrap ((k_17 : Int) + 1)))) rfl rfl (r_add (k_17 : Int) 1 rfl rfl) ?_
          refine lv (v := (.int .i64 (IntKind.i64.wrap ((k_17 : Int) + 1)))) rfl rfl (r_move rfl) ?_
          refine lnil ?_
          exact ⟨l_26.length, by simp, ⟨col_28, (k_17 + 1), a_30, cap_31, l_29, l_26, rfl, hl2, hm, hst, h0, rh_13, h_32, (congrArg (Value.int .i64) (wrap_succ (Nat.lt_of_lt_of_le hlt rh_13.len))), rfl, rfl, rfl, rfl, rfl, rfl, rfl, rfl⟩⟩
        · refine wblock ?_
          refine wseq ?_
          refine wregion ?_
          refine lv (v := (sptr ra_11 (Int.toNat (k_17 : Int) * 1))) rfl rfl (r_idx Try.underlying22 Try.sizeOf3 rfl rfl (at?_some hat).1 (at?_some hat).2.1 (rh_13.addr hat)) ?_
          refine lv (v := (.int .i64 x_25)) rfl rfl (r_ld Try.isAgg3 rfl (rh_13.atInt hat)) ?_
          refine lv (v := (.int .i64 x_25)) rfl rfl (r_assign rfl) ?_
          refine lnil ?_
          refine wseq ?_
          refine wregion ?_
          refine lv (v := (.int .i64 v_4)) rfl rfl (r_move rfl) ?_
          refine lv (v := (.int .i64 x_25)) rfl rfl (r_move rfl) ?_
          refine lv (v := (.bool (decide (v_4 < x_25)))) rfl rfl (r_lss v_4 x_25 rfl rfl) ?_
          refine lnil ?_
          refine wcond (decide (v_4 < x_25)) rfl (fun hb => ?_) (fun hb => ?_)
          · rw [if_pos hb] at hm
            clear hb
            refine wregion ?_
            refine lv (v := (.slice a_22 l_21.length cap_23)) rfl rfl (r_move rfl) ?_
            refine lv (v := (.int .i64 v_4)) rfl rfl (r_move rfl) ?_
            refine lv (v := (.int .i64 x_25)) rfl rfl (r_move rfl) ?_
            refine lv (v := (.agg #[(.int .i64 v_4), (.int .i64 x_25)])) rfl rfl (r_build (l := [_, _]) (qs := [(0, 1), (1, 1)]) Try.underlying47 Try.zeroValue47 ⟨rfl, Try.sizeOf3, rfl, Try.sizeOf3, trivial⟩ rfl) ?_
            refine l_lit (col := col_20) (r := (Rep.pair (Rep.int .i64) (Rep.int .i64))) (xs := [(v_4, x_25)]) [(.agg #[(.int .i64 v_4), (.int .i64 x_25)])] 3 rfl Try.underlying29 el47_69 rfl rfl rfl rfl rfl rfl (by intro v hv; simp only [List.mem_cons, List.not_mem_nil, or_false] at hv; subst hv; rfl) (RowsH.ofF (Rows.consF (r := (Rep.pair (Rep.int .i64) (Rep.int .i64))) (x := (v_4, x_25)) (cs := [(.int .i64 v_4), (.int .i64 x_25)]) (rd_pairI (rd_int .i64 v_4) (rd_int .i64 x_25)) Rows.nil0)) ?_
            intro a_33 w_34 col_35 hg_36 h_37
            replace h0 := h0.gr hg_36
            replace rh_13 := rh_13.gr hg_36
            replace h_24 := h_24.gr hg_36
            replace hst := hst.grow hg_36
            obtain ⟨hb_38, hm⟩ := chk_some hm
            refine l_appendM (col := col_35) (w := w_34) (r := (Rep.pair (Rep.int .i64) (Rep.int .i64))) (c := 1) (c2 := 1) (xs := l_21) (ys := [(v_4, x_25)]) h_24 (h_37.srcN (NB.pair (NB.int (k := .i64)) (NB.int (k := .i64)))) rfl Try.underlying29 el47_69 rfl rfl rfl hb_38.1 hb_38.2 (by decide) ?_
            intro a_39 cap_40 w_41 col_42 hk_43 h_44
            replace h0 := h0.kpp hk_43 rfl rfl
            replace rh_13 := rh_13.kpp hk_43 rfl rfl
            replace h_37 := h_37.kpp hk_43 rfl rfl
            replace hst := hst.kpp hk_43 rfl rfl
            clear h_24
            refine lv (v := (.slice a_39 ((l_21 ++ [(v_4, x_25)]).length) cap_40)) rfl rfl (r_assign rfl) ?_
            refine lnil ?_
            exact ⟨col_42, a_39, cap_40, (l_21 ++ [(v_4, x_25)]), hm, hst, h0, rh_13, h_44, rfl, rfl, rfl, rfl, rfl, rfl, rfl, rfl, rfl⟩
          · rw [if_neg (by rw [hb]; decide)] at hm
            clear hb
            refine wskip ?_
            exact ⟨col_20, a_22, cap_23, l_21, hm, hst, h0, rh_13, h_24, rfl, rfl, rfl, rfl, rfl, rfl, rfl, rfl, rfl⟩
    · rw [if_neg (by rw [hb]; decide)] at hm
      clear hb
      refine wexit (inB_hit ?_)
      refine wseq ?_
      refine wregion ?_
      refine lv (v := (.slice a_6 l_5.length cap_7)) rfl rfl (r_move rfl) ?_
      refine lv (v := (.slice a_6 l_5.length cap_7)) rfl rfl (r_assign rfl) ?_
      refine lnil ?_
      refine wret ?_
      cases hm
      exact ⟨rfl, colF w0.heap.size col col_3 (fun n => bif Nat.beq n 1 then c1 else 0), a_6, cap_7, rfl, hst.fin (fun n => bif Nat.beq n 1 then c1 else 0), hst.finOwn (g := (fun n => bif Nat.beq n 1 then c1 else 0)) rfl h_8 (by decide) (by decide) rfl⟩




def m_graph_Graph_Edges_1_L1  : List (Int × Int) → Option (List (Int × Int))
  | [] => some []
  | x_5 :: l_6 => ((m_graph_Graph_Edges_1_L1 l_6) ).bind fun r_20 => some ((x_5.1, x_5.2) :: r_20)

def m_graph_Graph_Edges_1 (v0_v : List (Int × Int)) : Option (List (Int × Int)) :=
  m_graph_Graph_Edges_1_L1 v0_v 

set_option maxRecDepth 100000 in
set_option maxHeartbeats 2000000 in
theorem c_graph_Graph_Edges_1 (col : Col) (w0 : World) (g0 : Nat) (af0 : Option Addr) (capf0 : Nat) (v0_v : List (Int × Int)) (hf0 : Own (Rep.pair (Rep.int .i64) (Rep.int .i64)) 47 450 col w0 af0 capf0 v0_v) (hb0 : Box 29 450 col w0 g0 #[(.slice af0 v0_v.length capf0)]) (r : List (Int × Int)) (hm : m_graph_Graph_Edges_1 v0_v = some r) :
    Goes Try.prog 93 [(.pointer (some ⟨g0, 0, none⟩))] (fun (y : (Int × Int)) (col : Col) (w : World) (args : List Value) => args = [(.agg #[(.int .i64 y.1), (.int .i64 y.2)])]) r col w0 := by
  intro l J X hjs hxs hy hst
  refine calls_of0 (m := 16) (args := [.func (.yield l) #[] #[], (.pointer (some ⟨g0, 0, none⟩))]) Try.func93 rfl rfl rfl rfl ?_
  rw [m_graph_Graph_Edges_1.eq_1] at hm
  refine wseq ?_
  refine wregion ?_
  refine lv (v := (.slice af0 v0_v.length capf0)) rfl rfl (r_ld Try.isAgg29 rfl hb0.at1) ?_
  refine lv (v := (.int .i64 (v0_v.length : Int))) rfl rfl (r_len Try.underlying29 rfl) ?_
  refine lv (v := (.int .i64 0)) rfl rfl (r_move rfl) ?_
  refine lnil ?_
  refine wblock ?_
  refine wloop (fun n f w_3 => ∃ (col_4 : Col) (r : List (Int × Int)) (k_1 : Nat) (l_2 : List (Int × Int)), n = l_2.length ∧ v0_v.drop k_1 = l_2 ∧ m_graph_Graph_Edges_1_L1 l_2  = some r ∧ J r col_4 w_3 ∧ Own (Rep.pair (Rep.int .i64) (Rep.int .i64)) 47 450 col_4 w_3 af0 capf0 v0_v ∧ Box 29 450 col_4 w_3 g0 #[(.slice af0 v0_v.length capf0)] ∧ f 7 = (.int .i64 (k_1 : Int)) ∧ f 0 = (.func (.yield l) #[] #[]) ∧ f 5 = (.slice af0 v0_v.length capf0) ∧ f 6 = (.int .i64 (v0_v.length : Int)) ∧ f 1000000 = (enc [])) v0_v.length ⟨col, r, 0, v0_v, rfl, rfl, hm, hst, hf0, hb0, rfl, rfl, rfl, rfl, rfl⟩ ?_
  clear hm; intro n f w_3 hI
  obtain ⟨col_4, r, k_1, l_2, hn, hl, hm, hst, hf0, hb0, hs7, hs0, hs5, hs6, hs1000000⟩ := hI
  subst hn
  refine .ld (d := 7) (v := (.int .i64 (k_1 : Int))) hs7 ?_
  refine .ld (d := 0) (v := (.func (.yield l) #[] #[])) hs0 ?_
  refine .ld (d := 5) (v := (.slice af0 v0_v.length capf0)) hs5 ?_
  refine .ld (d := 6) (v := (.int .i64 (v0_v.length : Int))) hs6 ?_
  refine .ld (d := 1000000) (v := (enc [])) hs1000000 ?_
  clear hs7 hs0 hs5 hs6 hs1000000
  cases l_2 with
  | nil =>
    have hk : ¬ ((k_1 : Int) < (v0_v.length : Int)) := by have := List.drop_eq_nil_iff.1 hl; omega
    have hkb := decide_eq_false hk
    rw [m_graph_Graph_Edges_1_L1.eq_1] at hm
    refine wseq ?_
    refine wregion ?_
    refine lv (v := (.bool (decide ((k_1 : Int) < (v0_v.length : Int))))) rfl rfl (r_lss (k_1 : Int) (v0_v.length : Int) rfl rfl) ?_
    refine lnil ?_
    refine wseq ?_
    refine wcondF (congrArg Value.bool hkb) ?_
    refine wexit (inB_hit ?_)
    cases hm
    exact ⟨rfl, ⟨_, rfl⟩, _, .inl hst⟩
  | cons x_5 l_6 =>
    obtain ⟨hat, hl2, hlt⟩ := drop_get hl
    have hk : (k_1 : Int) < (v0_v.length : Int) := by omega
    have hkb := decide_eq_true hk
    rw [m_graph_Graph_Edges_1_L1.eq_2] at hm
    refine wseq ?_
    refine wregion ?_
    refine lv (v := (.bool (decide ((k_1 : Int) < (v0_v.length : Int))))) rfl rfl (r_lss (k_1 : Int) (v0_v.length : Int) rfl rfl) ?_
    refine lnil ?_
    refine wseq ?_
    refine wcondT (congrArg Value.bool hkb) ?_
    refine wskip ?_
    refine wseq ?_
    refine wblock ?_
    refine wseq ?_
    refine wregion ?_
    refine lv (v := (sptr af0 (Int.toNat (k_1 : Int) * 2))) rfl rfl (r_idx Try.underlying29 Try.sizeOf47 rfl rfl (at?_some hat).1 (at?_some hat).2.1 (hf0.addr hat)) ?_
    obtain ⟨_, hr_7, hA_8⟩ := hf0.atN hat
    obtain ⟨_, _, rfl, hp_9, hp_10⟩ := hr_7.parts
    obtain rfl := hp_9.int
    obtain rfl := hp_10.int
    refine lv (v := (.agg #[(.int .i64 x_5.1), (.int .i64 x_5.2)])) rfl rfl (r_ldN Try.isAgg47 Try.sizeOf47 rfl rfl hA_8) ?_
    refine l_alloc (col := col_4) (v := (.agg #[(.int .i64 0), (.int .i64 0)])) 501 rfl Try.zeroValue47 ?_
    intro g_11 w_12 col_13 hg_14 hb_15
    replace hf0 := hf0.gr hg_14
    replace hb0 := hb0.gr hg_14
    replace hst := hjs _ _ _ _ _ hst hg_14.toP
    replace hb_15 : Box 47 501 col_13 w_12 g_11 #[(.int .i64 0), (.int .i64 0)] := hb_15
    refine l_bstore (v := (.agg #[(.int .i64 x_5.1), (.int .i64 x_5.2)])) hb_15 Try.sizeOf47 rfl rfl (by intro u hu; simp only [Value.cells, List.mem_cons, List.not_mem_nil, or_false] at hu; rcases hu with rfl | rfl <;> rfl) rfl rfl ?_
    intro w_16 hk_17 hs_18 hb_19
    replace hf0 := hf0.kp hk_17 (by decide) (by decide)
    replace hb0 := hb0.kp hk_17 (by decide)
    replace hst := hjs _ _ _ _ _ hst (hk_17.toP hs_18 rfl)
    clear hb_15
    replace hb_19 : Box 47 501 col_13 w_16 g_11 #[(.int .i64 x_5.1), (.int .i64 x_5.2)] := hb_19
    refine lnil ?_
    refine wseq ?_
    refine wregion ?_
    refine lv (v := (.func (.yield l) #[] #[])) rfl rfl (r_move rfl) ?_
    refine lv (v := (.agg #[(.int .i64 x_5.1), (.int .i64 x_5.2)])) rfl rfl (r_ldN Try.isAgg47 Try.sizeOf47 rfl rfl hb_19.atN) ?_
    obtain ⟨r_20, hc_21m, hc_21⟩ := bind_some hm
    cases hc_21
    have hm := hc_21m
    clear hc_21m
    refine ly1 rfl rfl rfl (hy _ _ _ _ [(.agg #[(.int .i64 x_5.1), (.int .i64 x_5.2)])] hst rfl) ?_
    rintro _ w_22 ⟨col_23, hk_24, ⟨rfl, hJ⟩ | ⟨rfl, hX⟩⟩
    · refine ⟨_, rfl, ?_⟩
      clear hst
      replace hf0 := hf0.kpp hk_24 rfl rfl
      replace hb0 := hb0.kpp hk_24 rfl
      have hst := hJ
      clear hJ
      refine lv (v := (.bool false)) rfl rfl (r_not true rfl) ?_
      refine lnil ?_
      refine wcondF rfl ?_
      refine wskip ?_
      refine wregion ?_
      refine lv (v := (.int .i64 (IntKind.i64.wrap ((k_1 : Int) + 1)))) rfl rfl (r_add (k_1 : Int) 1 rfl rfl) ?_
      refine lv (v := (.int .i64 (IntKind.i64.wrap ((k_1 : Int) + 1)))) rfl rfl (r_move rfl) ?_
      refine lnil ?_
      exact ⟨l_6.length, by simp, ⟨col_23, r_20, (k_1 + 1), l_6, rfl, hl2, hm, hst, hf0, hb0, (congrArg (Value.int .i64) (wrap_succ (Nat.lt_of_lt_of_le hlt hf0.len))), rfl, rfl, rfl, rfl⟩⟩
    · clear hm
      refine ⟨_, rfl, ?_⟩
      clear hst
      replace hf0 := hf0.kpp hk_24 rfl rfl
      replace hb0 := hb0.kpp hk_24 rfl
      have hst := hX
      clear hX
      refine lv (v := (.bool true)) rfl rfl (r_not false rfl) ?_
      refine lnil ?_
      refine wcondT rfl ?_
      refine wret ?_
      exact ⟨rfl, ⟨_, rfl⟩, _, .inr hst⟩




def m_graph_Graph_Edges (N : Nat) (p0_g : List (List Bool)) : Option (List (Int × Int)) :=
  (m_graph_Graph_list N p0_g).bind fun r_1 => m_graph_Graph_Edges_1 r_1

set_option maxRecDepth 100000 in
set_option maxHeartbeats 2000000 in
theorem c_graph_Graph_Edges (N : Nat) (col : Col) (w0 : World) (qc0 : Nat) (hqqc0 : qc0 ≠ 0) (o0 : GObj) (p0_g : List (List Bool)) (h0 : GO 85 86 qc0 col w0 o0 p0_g) (r : (List (Int × Int))) (hm : m_graph_Graph_Edges N p0_g = some r) :
    Calls Try.prog 64 #[(.pointer (some ⟨o0.g, 0, none⟩))] w0 (fun e w' => ∃ (col' : Col) (rv1 : Value), e = .returned (rv1) ∧ Grow col w0 col' w' ∧ It Try.prog rv1 (fun (y : (Int × Int)) (col : Col) (w : World) (args : List Value) => args = [(.agg #[(.int .i64 y.1), (.int .i64 y.2)])]) r q0 col' w') := by
  refine calls_of1 2 (m := 7) (args := [(.pointer (some ⟨o0.g, 0, none⟩))]) Try.func64 rfl rfl rfl rfl rfl ?_
  rw [m_graph_Graph_Edges.eq_1] at hm
  have hst := St.start col w0
  replace h0 := h0.start0 hqqc0
  refine wseq ?_
  refine wregion ?_
  refine lv (v := _) rfl rfl (r_assign rfl) ?_
  refine lnil ?_
  refine wseq ?_
  refine wregion ?_
  refine lv (v := (.pointer (some ⟨o0.g, 0, none⟩))) rfl rfl (r_move rfl) ?_
  obtain ⟨r_1, hr_2, hm⟩ := bind_some hm
  refine lc rfl rfl (r_call1 Try.call69 rfl) (c_graph_Graph_list N 1 (col0 col) _ 999 (by decide) o0 p0_g h0 r_1 hr_2) ?_
  rintro _ w_6 ⟨col_8, ra_3, rc_4, rfl, hg_7, rh_5⟩
  refine ⟨_, rfl, ?_⟩
  replace h0 := h0.gr hg_7
  replace hst := hst.grow hg_7
  refine l_alloc (col := col_8) (v := (.slice none (([] : List (Int × Int)).length) 0)) 2 rfl Try.zeroValue29 ?_
  intro g_9 w_10 col_11 hg_12 hb_13
  replace rh_5 := rh_5.gr hg_12
  replace hst := hst.grow hg_12
  replace hb_13 : Box 29 2 col_11 w_10 g_9 #[(.slice none (([] : List (Int × Int)).length) 0)] := hb_13
  refine l_bstore (v := (.slice ra_3 r_1.length rc_4)) hb_13 Try.sizeOf29 rfl rfl (by intro u hu; simp only [Value.cells, List.mem_cons, List.not_mem_nil, or_false] at hu; subst hu; rfl) rfl rfl ?_
  intro w_14 hk_15 hs_16 hb_17
  replace rh_5 := rh_5.kp hk_15 (by decide) (by decide)
  replace hst := hst.kp hk_15 hs_16 (by decide) (by decide)
  clear hb_13
  replace hb_17 : Box 29 2 col_11 w_14 g_9 #[(.slice ra_3 r_1.length rc_4)] := hb_17
  refine lnil ?_
  refine wseq ?_
  refine wregion ?_
  refine lv (v := (.func (.func 93) #[] #[(.pointer (some ⟨g_9, 0, none⟩))])) rfl rfl (r_func1 rfl) ?_
  refine lv (v := (.func (.func 93) #[] #[(.pointer (some ⟨g_9, 0, none⟩))])) rfl rfl (r_assign rfl) ?_
  refine lnil ?_
  refine wret ?_
  have hb_17f := hst.finBox (G := (fun n => bif Nat.beq n 2 then 450 else bif Nat.beq n 1 then 450 else 0)) hb_17 (by decide) (by decide) (show (fun n => bif Nat.beq n 2 then 450 else bif Nat.beq n 1 then 450 else 0) 2 = 450 from rfl)
  have rh_5f := hst.finOwn (g := (fun n => bif Nat.beq n 2 then 450 else bif Nat.beq n 1 then 450 else 0)) rfl rh_5 (by decide) (by decide) (show (fun n => bif Nat.beq n 2 then 450 else bif Nat.beq n 1 then 450 else 0) 1 = 450 from rfl)
  refine ⟨rfl, colF w0.heap.size col col_11 (fun n => bif Nat.beq n 2 then 450 else bif Nat.beq n 1 then 450 else 0), _, rfl, hst.fin (fun n => bif Nat.beq n 2 then 450 else bif Nat.beq n 1 then 450 else 0), 93, [(.pointer (some ⟨g_9, 0, none⟩))], rfl, Try.call93, ?_⟩
  intro col9 w9 hs9 hk9
  replace hb_17f := hb_17f.itk hs9 hk9 rfl
  replace rh_5f := rh_5f.itk hs9 hk9 rfl (flat_pair (flat_int .i64) (flat_int .i64))
  exact c_graph_Graph_Edges_1  col9 w9 g_9 ra_3 rc_4 r_1 rh_5f hb_17f r hm



set_option maxRecDepth 100000 in
theorem el47_25 : ElemOk Try.prog 47 2 16 := ⟨Try.t47, _, rfl, rfl, rfl, rfl, rfl⟩

def m_l15_listed_L1  : List (Int × Int) → (List (Int × Int)) → Option ((List (Int × Int)) × Bool)
  | [], l_15 => some (l_15, true)
  | y_19 :: l_20, l_15 => chk ((l_15.length + [(y_19.1, y_19.2)].length) * 16 ≤ 140737488355328 ∧ l_15.length + [(y_19.1, y_19.2)].length ≤ maxLen) ((m_l15_listed_L1 l_20) (l_15 ++ [(y_19.1, y_19.2)]))

def m_l15_listed (N : Nat) (p0_g : List (List Bool)) : Option ((List (Int × Int)) × Bool) :=
  (m_graph_Graph_Edges N p0_g).bind fun r_6 => m_l15_listed_L1 r_6 ([] : List (Int × Int))

set_option maxRecDepth 100000 in
set_option maxHeartbeats 2000000 in
theorem c_l15_listed (N : Nat) (c1 : Nat) (col : Col) (w0 : World) (qc0 : Nat) (hqqc0 : qc0 ≠ 0) (o0 : GObj) (p0_g : List (List Bool)) (h0 : GO 85 86 qc0 col w0 o0 p0_g) (r : ((List (Int × Int)) × Bool)) (hm : m_l15_listed N p0_g = some r) :
    Calls Try.prog 25 #[(.pointer (some ⟨o0.g, 0, none⟩))] w0 (fun e w' => ∃ (col' : Col) (ra1 : Option Addr) (rc2 : Nat), e = .returned (.tuple #[(.slice ra1 r.1.length rc2), (.bool r.2)]) ∧ Grow col w0 col' w' ∧ Own (Rep.pair (Rep.int .i64) (Rep.int .i64)) 47 c1 col' w' ra1 rc2 r.1) := by
  refine calls_ofM2 2 3 (m := 18) (args := [(.pointer (some ⟨o0.g, 0, none⟩))]) Try.func25 rfl rfl rfl rfl rfl ?_
  rw [m_l15_listed.eq_1] at hm
  have hst := St.start col w0
  replace h0 := h0.start0 hqqc0
  have hmk : Marks (col0 col) w0 [] := .nil
  refine wseq ?_
  refine wregion ?_
  refine lv (v := (.slice none (([] : List (Int × Int)).length) 0)) rfl rfl (r_assign rfl) ?_
  refine lv (v := (.bool false)) rfl rfl (r_assign rfl) ?_
  refine lnil ?_
  refine wseq ?_
  refine wregion ?_
  refine l_alloc (col := (col0 col)) (v := (.slice none (([] : List (Int × Int)).length) 0)) 1 rfl Try.zeroValue29 ?_
  intro g_1 w_2 col_3 hg_4 hb_5
  replace h0 := h0.gr hg_4
  replace hmk := hmk.gr hg_4
  replace hst := hst.grow hg_4
  replace hb_5 : Box 29 1 col_3 w_2 g_1 #[(.slice none (([] : List (Int × Int)).length) 0)] := hb_5
  refine lnil ?_
  refine wseq ?_
  refine wregion ?_
  refine lv (v := (.pointer (some ⟨o0.g, 0, none⟩))) rfl rfl (r_move rfl) ?_
  obtain ⟨r_6, hr_7, hm⟩ := bind_some hm
  refine lc rfl rfl (r_call1 Try.call64 rfl) (c_graph_Graph_Edges N col_3 _ 999 (by decide) o0 p0_g h0 r_6 hr_7) ?_
  rintro _ w_10 ⟨col_12, rv_8, rfl, hg_11, rh_9⟩
  refine ⟨_, rfl, ?_⟩
  replace h0 := h0.gr hg_11
  replace hb_5 := hb_5.gr hg_11
  replace hmk := hmk.gr hg_11
  replace hst := hst.grow hg_11
  refine lv (v := rv_8) rfl rfl (r_assign rfl) ?_
  refine lnil ?_
  refine wseq ?_
  refine wseq ?_
  refine wregion ?_
  refine lv (v := rv_8) rfl rfl (r_move rfl) ?_
  refine lv (v := (.bool false)) rfl rfl (r_eqlNilF rh_9 ⟨_, _, _, Try.underlying105⟩ rfl) ?_
  refine lnil ?_
  refine wcondF rfl ?_
  refine wskip ?_
  refine wseq ?_
  refine wseq ?_
  refine wregion ?_
  refine lv (v := rv_8) rfl rfl (r_move rfl) ?_
  refine lnil ?_
  refine wblock ?_
  refine wrange (psl := [12]) (arr := (fun (y : (Int × Int)) (col : Col) (w : World) (args : List Value) => args = [(.agg #[(.int .i64 y.1), (.int .i64 y.2)])])) (ys := r_6) (col := col_12) 498 rfl rh_9 rfl hmk rfl rfl (by rintro _ _ _ _ rfl; rfl) (fun ys_ col_14 w_13 => ∃ (a_16 : Option Addr) (cap_17 : Nat) (l_15 : List (Int × Int)), m_l15_listed_L1 ys_ l_15 = some r ∧ St w0 (col0 col) col_14 w_13 ∧ Own (Rep.pair (Rep.int .i64) (Rep.int .i64)) 47 2 col_14 w_13 a_16 cap_17 l_15 ∧ Box 29 1 col_14 w_13 g_1 #[(.slice a_16 l_15.length cap_17)]) (fun _ _ _ => False) ?_ ?_ ⟨none, 0, ([] : List (Int × Int)), hm, hst, Own.nil, hb_5⟩ ?_ ?_ ?_
  · intro ys_ col_14 w_13 col2_ w2_ hJ hk
    obtain ⟨a_16, cap_17, l_15, hm, hst, h_18, hb_5⟩ := hJ
    exact ⟨a_16, cap_17, l_15, hm, hst.kpp hk rfl rfl, h_18.kpp hk rfl rfl, hb_5.kpp hk rfl⟩
  · intro _ _ _ _ _ h _
    exact h
  · intro l_25 rc_26 ds_27 y_19 l_20 col_14 w_13 args hJ hrec hmk harr
    obtain ⟨a_16, cap_17, l_15, hm, hst, h_18, hb_5⟩ := hJ
    rw [m_l15_listed_L1.eq_2] at hm
    have hki := KeepP.refl pCo col_14 w_13
    subst harr
    refine wregion ?_
    refine l_alloc (col := col_14) (v := (.agg #[(.int .i64 0), (.int .i64 0)])) 3 rfl Try.zeroValue47 ?_
    intro g_28 w_29 col_30 hg_31 hb_32
    replace h_18 := h_18.gr hg_31
    replace hb_5 := hb_5.gr hg_31
    replace hrec := hrec.gr hg_31
    replace hmk := hmk.gr hg_31
    replace hki := hki.gr hg_31
    replace hst := hst.grow hg_31
    replace hb_32 : Box 47 3 col_30 w_29 g_28 #[(.int .i64 0), (.int .i64 0)] := hb_32
    refine l_bstore (v := (.agg #[(.int .i64 y_19.1), (.int .i64 y_19.2)])) hb_32 Try.sizeOf47 rfl rfl (by intro u hu; simp only [Value.cells, List.mem_cons, List.not_mem_nil, or_false] at hu; rcases hu with rfl | rfl <;> rfl) rfl rfl ?_
    intro w_33 hk_34 hs_35 hb_36
    replace h_18 := h_18.kp hk_34 (by decide) (by decide)
    replace hb_5 := hb_5.kp hk_34 (by decide)
    replace hrec := hrec.kp hk_34 (by decide)
    replace hmk := hmk.kp hk_34 (by decide)
    replace hki := hki.kp hk_34 hs_35 rfl
    replace hst := hst.kp hk_34 hs_35 (by decide) (by decide)
    clear hb_32
    replace hb_36 : Box 47 3 col_30 w_33 g_28 #[(.int .i64 y_19.1), (.int .i64 y_19.2)] := hb_36
    refine lnil ?_
    refine ⟨_, hrec, ?_⟩
    intro w_37 rc_38 hk_39 hs_40 hrec2
    replace h_18 := h_18.kp hk_39 (by decide) (by decide)
    replace hb_5 := hb_5.kp hk_39 (by decide)
    replace hb_36 := hb_36.kp hk_39 (by decide)
    replace hmk := hmk.kp hk_39 (by decide)
    replace hki := hki.kp hk_39 hs_40 rfl
    replace hst := hst.kp hk_39 hs_40 (by decide) (by decide)
    clear hrec
    have hrec := hrec2
    clear hrec2
    refine wblock ?_
    refine wregion ?_
    refine lv (v := (.slice a_16 l_15.length cap_17)) rfl rfl (r_ld Try.isAgg29 rfl hb_5.at1) ?_
    refine lv (v := (.agg #[(.int .i64 y_19.1), (.int .i64 y_19.2)])) rfl rfl (r_ldN Try.isAgg47 Try.sizeOf47 rfl rfl hb_36.atN) ?_
    refine l_lit (col := col_30) (r := (Rep.pair (Rep.int .i64) (Rep.int .i64))) (xs := [(y_19.1, y_19.2)]) [(.agg #[(.int .i64 y_19.1), (.int .i64 y_19.2)])] 4 rfl Try.underlying29 el47_25 rfl rfl rfl rfl rfl rfl (by intro v hv; simp only [List.mem_cons, List.not_mem_nil, or_false] at hv; subst hv; rfl) (RowsH.ofF (Rows.consF (r := (Rep.pair (Rep.int .i64) (Rep.int .i64))) (x := (y_19.1, y_19.2)) (cs := [(.int .i64 y_19.1), (.int .i64 y_19.2)]) (rd_pairI (rd_int .i64 y_19.1) (rd_int .i64 y_19.2)) Rows.nil0)) ?_
    intro a_41 w_42 col_43 hg_44 h_45
    replace h_18 := h_18.gr hg_44
    replace hb_5 := hb_5.gr hg_44
    replace hrec := hrec.gr hg_44
    replace hmk := hmk.gr hg_44
    replace hki := hki.gr hg_44
    replace hst := hst.grow hg_44
    obtain ⟨hb_46, hm⟩ := chk_some hm
    refine l_ext (col := col_43) (w := w_42) (r := (Rep.pair (Rep.int .i64) (Rep.int .i64))) (c := 2) (c2 := 2) (h_18.ex) (h_45.srcN (NB.pair (NB.int (k := .i64)) (NB.int (k := .i64)))) rfl Try.underlying29 el47_25 rfl rfl rfl hb_46.1 hb_46.2 (by decide) ?_
    intro a_47 cap_48 w_49 col_50 hk_51 h_52
    replace h_45 := h_45.kpp hk_51 rfl rfl
    replace hb_5 := hb_5.kpp hk_51 rfl
    replace hrec := hrec.kpp hk_51 rfl
    replace hmk := hmk.kpp hk_51 rfl
    replace hki := hki.trans (hk_51.mono (by first | exact pCo_p2 rfl | exact pCo_p1 rfl | exact pCo_pS rfl | decide))
    replace hst := hst.kpp hk_51 rfl rfl
    clear h_18
    refine l_bstore (v := (.slice a_47 ((l_15 ++ [(y_19.1, y_19.2)]).length) cap_48)) hb_5 Try.sizeOf29 rfl rfl (by intro u hu; simp only [Value.cells, List.mem_cons, List.not_mem_nil, or_false] at hu; subst hu; rfl) rfl rfl ?_
    intro w_53 hk_54 hs_55 hb_56
    replace h_52 := h_52.kp hk_54 (by decide) (by decide)
    replace hrec := hrec.kp hk_54 (by decide)
    replace hmk := hmk.kp hk_54 (by decide)
    replace hki := hki.kp hk_54 hs_55 rfl
    replace hst := hst.kp hk_54 hs_55 (by decide) (by decide)
    clear hb_5
    replace hb_56 : Box 29 1 col_50 w_53 g_1 #[(.slice a_47 ((l_15 ++ [(y_19.1, y_19.2)]).length) cap_48)] := hb_56
    have h_57 := h_52.new
    clear h_52
    refine lnil ?_
    exact ⟨_, hki, ⟨a_47, cap_48, (l_15 ++ [(y_19.1, y_19.2)]), hm, hst, h_57, hb_56⟩, hrec, hmk⟩
  · clear hmk
    intro D_21 col_14 w_13 hJ hmk
    obtain ⟨a_16, cap_17, l_15, hm, hst, h_18, hb_5⟩ := hJ
    rw [m_l15_listed_L1.eq_1] at hm
    refine wseq ?_
    refine wregion ?_
    refine lv (v := (.slice a_16 l_15.length cap_17)) rfl rfl (r_ld Try.isAgg29 rfl hb_5.at1) ?_
    refine lv (v := (.slice a_16 l_15.length cap_17)) rfl rfl (r_assign rfl) ?_
    refine lv (v := (.bool true)) rfl rfl (r_assign rfl) ?_
    refine lnil ?_
    refine wret ?_
    cases hm
    refine ⟨_, (D_21 :: []), rfl, hmk, ?_⟩
    intro w_22 hk_23 hs_24
    clear hmk
    replace h_18 := h_18.kp hk_23 (by decide) (by decide)
    replace hst := hst.kp hk_23 hs_24 (by decide) (by decide)
    exact ⟨colF w0.heap.size col col_14 (fun n => bif Nat.beq n 2 then c1 else 0), a_16, cap_17, rfl, hst.fin (fun n => bif Nat.beq n 2 then c1 else 0), hst.finOwn (g := (fun n => bif Nat.beq n 2 then c1 else 0)) rfl h_18 (by decide) (by decide) rfl⟩
  · intro _ _ _ _ h
    exact h.elim



section
variable {n N : Nat} {t : List (List Bool)} {a b x y : Int}
theorem Has_eq (h : Tab n t) : m_graph_Graph_Has t a b = some (ge t a b) := by
  unfold m_graph_Graph_Has m_graph_Graph_Has_J1
  rw [in_eq h]
  simp only [Option.bind_some]
  by_cases ha : 0 ≤ a ∧ a < (n : Int)
  · rw [decide_eq_true ha, if_pos rfl, h.at ha]; rfl
  · rw [decide_eq_false ha, if_neg (by decide)]
    unfold ge; rw [row_out h ha, gat_nil]
/-- The edges, in order. -/
def edgesL (n : Nat) (t : List (List Bool)) : List (Int × Int) := (List.range n).flatMap fun a : Nat => ((near n t (a : Int)).filter fun b => decide ((a : Int) < b)).map fun b => ((a : Int), b)
theorem list_L2 (v : Int) (kk : Int → List (Int × Int) → Option (List (Int × Int))) : ∀ (l : List Int) (acc : List (Int × Int)), acc.length + l.length ≤ 1100000 →
    m_graph_Graph_list_L2 v kk l acc = kk (IntKind.i64.wrap (v + 1)) (acc ++ (l.filter fun b => decide (v < b)).map fun b => (v, b))
  | [], acc, _ => by rw [m_graph_Graph_list_L2.eq_1]; simp
  | x :: l, acc, hl => by
    rw [m_graph_Graph_list_L2.eq_2]
    simp only [List.length_cons] at hl
    unfold m_graph_Graph_list_J1
    by_cases hx : v < x
    · rw [if_pos (decide_eq_true hx), chk_pos (by simp only [List.length_cons, List.length_nil, maxLen]; omega), list_L2 v kk l _ (by simp; omega), List.filter_cons, if_pos (decide_eq_true hx)]
      simp
    · rw [if_neg (by simpa using hx), list_L2 v kk l _ (by omega), List.filter_cons, if_neg (by simpa using hx)]
theorem list_L1 (h : Tab n t) (hn : n ≤ 1024) : ∀ (f k : Nat) (acc : List (Int × Int)), k ≤ n → n - k < f → acc.length ≤ k * 1024 →
    m_graph_Graph_list_L1 N t f (k : Int) acc = some (acc ++ ((List.range n).drop k).flatMap fun a : Nat => ((near n t (a : Int)).filter fun b => decide ((a : Int) < b)).map fun b => ((a : Int), b))
  | 0, k, acc, _, hf, _ => by omega
  | f + 1, k, acc, hk, hf, ha => by
    rw [m_graph_Graph_list_L1.eq_2, h.len]
    by_cases hlt : k < n
    · rw [if_pos (decide_eq_true (by omega)), Near_eq h hn]
      simp only [Option.bind_some]
      have hnl := near_len (a := (k : Int)) h
      rw [list_L2 _ _ _ _ (by have : k * 1024 ≤ 1024 * 1024 := Nat.mul_le_mul_right _ (by omega); omega), wS (by omega)]
      have hfl := List.length_filter_le (fun b => decide ((k : Int) < b)) (near n t (k : Int))
      rw [list_L1 h hn f (k + 1) _ (by omega) (by omega) (by rw [List.length_append, List.length_map]; omega)]
      have hd : (List.range n).drop k = k :: (List.range n).drop (k + 1) := by
        rw [List.drop_eq_getElem_cons (by simpa using hlt)]; simp
      rw [hd, List.flatMap_cons, List.append_assoc]
    · rw [if_neg (by simp; omega), List.drop_eq_nil_of_le (by simp; omega)]; simp
theorem edges1 : ∀ l : List (Int × Int), m_graph_Graph_Edges_1_L1 l = some l
  | [] => by rw [m_graph_Graph_Edges_1_L1.eq_1]
  | x :: l => by rw [m_graph_Graph_Edges_1_L1.eq_2, edges1 l]; rfl
theorem list_eq (h : Tab n t) (hn : n ≤ 1024) (hN : 2048 < N) : m_graph_Graph_list N t = some (edgesL n t) := by
  unfold m_graph_Graph_list
  have := list_L1 (N := N) h hn N 0 [] (Nat.zero_le _) (by omega) (by simp)
  unfold edgesL
  simpa using this
theorem Edges_eq (h : Tab n t) (hn : n ≤ 1024) (hN : 2048 < N) : m_graph_Graph_Edges N t = some (edgesL n t) := by
  unfold m_graph_Graph_Edges m_graph_Graph_Edges_1
  rw [list_eq h hn hN]; exact edges1 _
theorem edgesL_len (h : Tab n t) : (edgesL n t).length ≤ n * n := by
  unfold edgesL
  rw [List.length_flatMap]
  have : ∀ l : List Nat, (l.map fun a : Nat => (((near n t (a : Int)).filter fun b => decide ((a : Int) < b)).map fun b => ((a : Int), b)).length).sum ≤ l.length * n := by
    intro l
    induction l with
    | nil => simp
    | cons x l ih =>
      have h1 := List.length_filter_le (fun b => decide ((x : Int) < b)) (near n t (x : Int))
      have h2 := near_len (a := (x : Int)) h
      rw [List.map_cons, List.sum_cons, List.length_map, List.length_cons, Nat.add_mul]
      omega
  simpa using this (List.range n)
theorem edgesL_mem (h : Tab n t) : (x, y) ∈ edgesL n t ↔ ge t x y = true ∧ x < y := by
  unfold edgesL
  rw [List.mem_flatMap]
  constructor
  · rintro ⟨a, ha, hm⟩
    obtain ⟨b, hb, he⟩ := List.mem_map.1 hm
    rw [List.mem_filter] at hb
    simp only [Prod.mk.injEq] at he
    obtain ⟨rfl, rfl⟩ := he
    exact ⟨near_mem.1 hb.1, by simpa using hb.2⟩
  · rintro ⟨h1, h2⟩
    obtain ⟨hx, hy⟩ := h.range h1
    refine ⟨x.toNat, List.mem_range.2 (by omega), List.mem_map.2 ⟨y, List.mem_filter.2 ⟨?_, ?_⟩, ?_⟩⟩
    · rw [show ((x.toNat : Nat) : Int) = x by omega]; exact near_mem.2 h1
    · rw [decide_eq_true_eq]; omega
    · rw [show ((x.toNat : Nat) : Int) = x by omega]
theorem listed_L1 : ∀ (l acc : List (Int × Int)), acc.length + l.length ≤ 1100000 → m_l15_listed_L1 l acc = some (acc ++ l, true)
  | [], acc, _ => by rw [m_l15_listed_L1.eq_1]; simp
  | x :: l, acc, hl => by
    simp only [List.length_cons] at hl
    rw [m_l15_listed_L1.eq_2, chk_pos (by simp only [List.length_cons, List.length_nil, maxLen]; omega), listed_L1 l _ (by simp; omega)]
    simp
theorem listed_eq (h : Tab n t) (hn : n ≤ 1024) (hN : 2048 < N) : m_l15_listed N t = some (edgesL n t, true) := by
  unfold m_l15_listed
  rw [Edges_eq h hn hN]
  simp only [Option.bind_some]
  have h1 := edgesL_len h
  have h2 : n * n ≤ 1024 * 1024 := Nat.mul_le_mul hn hn
  rw [listed_L1 _ _ (by simp; omega)]; rfl

/-! ### Remove, and the edges -/
/-- What is wanting, put in. -/
def put (t : List (List Bool)) (n : Nat) (a x y : Int) : Bool := ge t a x && ge t a y && !decide (x = y) && !ge t x y
theorem ge_cut (h : Gr n t) (ha : 0 ≤ a ∧ a < (n : Int)) : ge ((delN t a (near n t a)).set a.toNat (List.replicate n false)) x y = (ge t x y && !decide (x = a) && !decide (y = a)) := by
  have h1 : Tab n (delN t a (near n t a)) := h.tab.del (near_range h.tab)
  rw [ge_set h1 ha]
  by_cases hx : x = a
  · rw [if_pos hx, gat_replicate]; simp [hx]
  · rw [if_neg hx, ge_del h.tab (near_range h.tab), decide_eq_false hx]
    by_cases hy : y = a
    · subst hy
      cases hg : ge t x y
      · simp
      · have : x ∈ near n t y := near_mem.2 (by rw [h.sym]; exact hg)
        simp [this]
    · simp [hy]
theorem Gr.cut (h : Gr n t) (ha : 0 ≤ a ∧ a < (n : Int)) : Gr n ((delN t a (near n t a)).set a.toNat (List.replicate n false)) := by
  refine ⟨(h.tab.del (near_range h.tab)).set _ (by simp), fun x y => ?_, fun x => ?_⟩
  · rw [ge_cut h ha, ge_cut h ha, h.sym x y, Bool.and_assoc, Bool.and_assoc, Bool.and_comm (!decide (x = a))]
  · rw [ge_cut h ha, h.irr x]; rfl
theorem Gr.joinAll : ∀ {l : List (Int × Int)} {t : List (List Bool)}, Gr n t → Gr n (joinAll n t l)
  | [], t, h => h
  | p :: l, t, h => Gr.joinAll (l := l) (h.join (a := p.1) (b := p.2))
def Peo (t : List (List Bool)) : List Int → Prop
  | [] => True
  | x :: l => (∀ y ∈ l, ∀ z ∈ l, y ≠ z → ge t x y = true → ge t x z = true → ge t y z = true) ∧ Peo t l
theorem Peo.first {t : List (List Bool)} : ∀ {l : List Int}, Peo t l → ∀ (p : Int → Bool), (∃ x ∈ l, p x = true) → ∃ x ∈ l, p x = true ∧ ∀ y ∈ l, ∀ z ∈ l, p y = true → p z = true → y ≠ x → z ≠ x → y ≠ z → ge t x y = true → ge t x z = true → ge t y z = true
  | [], _, p, h => by obtain ⟨_, h, _⟩ := h; cases h
  | v :: l, ⟨h1, h2⟩, p, h => by
    by_cases hv : p v = true
    · refine ⟨v, by simp, hv, fun y hy z hz _ _ hyx hzx hyz => h1 y ?_ z ?_ hyz⟩
      · rcases List.mem_cons.1 hy with e | e; exact absurd e hyx; exact e
      · rcases List.mem_cons.1 hz with e | e; exact absurd e hzx; exact e
    · obtain ⟨x, hx, hp⟩ := h
      rcases List.mem_cons.1 hx with rfl | hx
      · exact absurd hp hv
      · obtain ⟨x, h3, h4, h5⟩ := Peo.first h2 p ⟨x, hx, hp⟩
        refine ⟨x, by simp [h3], h4, fun y hy z hz py pz => ?_⟩
        rcases List.mem_cons.1 hy with rfl | hy
        · exact absurd py hv
        · rcases List.mem_cons.1 hz with rfl | hz
          · exact absurd pz hv
          · exact h5 y hy z hz py pz
end


theorem c_slices_Sort_int_int (col : Col) (w0 : World) (qc0 : Nat) (hd : dstB [qc0] = true) (a0 : Option Addr) (cap0 : Nat) (p0_x : (List Int)) (h0 : Own (Rep.int .i64) 3 qc0 col w0 a0 cap0 p0_x) (r : (List Int)) (hm : lib_sort p0_x = some r) :
    Calls Try.prog 68 #[(.slice a0 p0_x.length cap0)] w0 (fun e w' => ∃ (col' : Col), e = .returned (.tuple #[]) ∧ KeepP (pS [qc0]) col w0 col' w' ∧ Own (Rep.int .i64) 3 qc0 col' w' a0 cap0 r ∧ r.length = p0_x.length) :=
  sort_int Try.slices_Sort_int Try.slices_Sort_int_none col w0 qc0 hd a0 cap0 p0_x h0 r hm


end Go.Proofs.Ytgkofjmeopbkbaa
