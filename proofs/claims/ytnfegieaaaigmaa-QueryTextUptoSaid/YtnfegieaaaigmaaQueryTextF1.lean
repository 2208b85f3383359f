/-
  What functions of the program compute, as plain Lean functions (m_..), and proofs that they compute it (c_..). Printed by a program of the author; no conditions.
-/
import Derived.Test.YtnfegieaaaigmaaQueryTextBFloat
import Derived.Test.YtnfegieaaaigmaaProg
import Derived.Test.YtnfegieaaaigmaaQueryTextBArr
import Derived.Test.YtnfegieaaaigmaaQueryTextBBld
import Derived.Test.YtnfegieaaaigmaaQueryTextBBldP
import Derived.Test.YtnfegieaaaigmaaQueryTextBBrief
import Derived.Test.YtnfegieaaaigmaaQueryTextBMixD
set_option linter.unusedVariables false
set_option maxRecDepth 100000
set_option maxHeartbeats 2000000
namespace Go.Proofs.Ytnfegieaaaigmaa
open Go Go.RowKit
theorem oB {α β : Type} {a : α} {f : α → Option β} : (some a).bind f = f a := rfl
theorem dT {p : Prop} [i : Decidable p] (h : p) : decide p = true := decide_eq_true h
theorem dF {p : Prop} [i : Decidable p] (h : ¬p) : ¬(decide p = true) := fun q => h (of_decide_eq_true q)
theorem nA {α : Type _} {a b : List α} : (a ++ b).length = a.length + b.length := List.length_append
theorem nC {α : Type _} {a : α} {b : List α} : (a :: b).length = b.length + 1 := rfl
theorem nS {α : Type _} {a : List α} {i : Nat} {b : α} : (a.set i b).length = a.length := List.length_set
theorem nK {α : Type _} {i : Nat} {a : List α} : (a.take i).length = min i a.length := List.length_take
theorem nN {α : Type _} : ([] : List α).length = 0 := rfl
theorem Sl.k0 {α : Type} {r : Rep α} {col : Col} {w : World} {a : Option Addr} {c : Nat} {xs : List α} (h : Sl r col w a c xs) : Sl r (col0 col) w a c xs := h.keep (Stay.start col w)
abbrev rU : Rep Int := Rep.int .u32
abbrev rI : Rep Int := Rep.int .i64
abbrev nI : Value := .slice none (([] : List Int).length) 0

theorem w64 {x : Int} (h : -9223372036854775808 ≤ x ∧ x ≤ 9223372036854775807) : IntKind.i64.wrap x = x := by rw [IntKind.wrap_i64]; omega
theorem chk_pos {α : Type} {c : Prop} [Decidable c] {x : Option α} (h : c) : chk c x = x := if_pos h
theorem at?_lt {α : Type} {xs : List α} {k : Nat} (h : k < xs.length) : at? xs (k : Int) = some xs[k] := by rw [at?_nat]; exact List.getElem?_eq_getElem h
def m_lex_letter_J1  : Option Bool :=
  some false
def m_lex_letter_J2 (v_23 : Bool) : Option Bool :=
  if v_23 = true then (some true) else m_lex_letter_J1
def m_lex_letter_J4 (p0_c : Int) (v_32 : Bool) : Option Bool :=
  if v_32 = true then (m_lex_letter_J2 v_32) else (m_lex_letter_J2 (decide (p0_c = 95)))
def m_lex_letter_J3 (p0_c : Int) (v_28 : Bool) : Option Bool :=
  if v_28 = true then (m_lex_letter_J2 v_28) else (if (decide (97 ≤ p0_c)) = true then (m_lex_letter_J4 p0_c (decide (p0_c ≤ 122))) else (m_lex_letter_J4 p0_c false))
def m_lex_letter (p0_c : Int) : Option Bool :=
  if (decide (65 ≤ p0_c)) = true then (m_lex_letter_J3 p0_c (decide (p0_c ≤ 90))) else (m_lex_letter_J3 p0_c false)
theorem c_lex_letter {col : Col} {w0 : World} {p0_c : Int} {r : Bool} (hm : m_lex_letter p0_c = some r)  :
    Calls Try.prog 33 #[(.int .u8 p0_c)] w0 (fun e w' => e = .returned ((.bool r)) ∧ Below w0.heap.size w0 w') := by
 refine calls_of1 2 (m := 18) Try.func33 rfl rfl rfl rfl rfl ?_;rw [m_lex_letter.eq_1] at hm;have hst := St.start col w0;refine wseq <| wregion <| lAB rfl <| lnil <| wseq ?_;refine Wp.cutK [1000000] (fun f w_1 => ∃ col_2, m_lex_letter_J1  = some r ∧ St w0 (col0 col) col_2 w_1) ?_ ?_
 ·intro f w_1 hJ;obtain ⟨col_2, hm, hst⟩ := hJ;rw [m_lex_letter_J1.eq_1] at hm;refine go ?_;cases hm;exact ⟨rfl, rfl, hst.below⟩
 refine wblock <| wseq ?_;refine Wp.cutK [1000000] (fun f w_21 => ∃ col_22 v_23, m_lex_letter_J2 v_23 = some r ∧ St w0 (col0 col) col_22 w_21 ∧ [3].map f = [.bool v_23]) ?_ ?_
 ·intro f w_21 hJ;obtain ⟨col_22, v_23, hm, hst, hs⟩ := hJ;rw [m_lex_letter_J2.eq_1] at hm;refine .lL [3] hs ?_;refine wcb hm (fun hb hm => go ?_) fun hb hm => ?_
  ·cases hm;exact ⟨rfl, rfl, hst.below⟩
  refine wskip ?_;exact ⟨rfl, _, hm, hst⟩
 refine wseq ?_;refine Wp.cutK [0, 1000000] (fun f w_26 => ∃ col_27 v_28, m_lex_letter_J3 p0_c v_28 = some r ∧ St w0 (col0 col) col_27 w_26 ∧ [3].map f = [.bool v_28]) ?_ ?_
 ·intro f w_26 hJ;obtain ⟨col_27, v_28, hm, hst, hs⟩ := hJ;rw [m_lex_letter_J3.eq_1] at hm;refine .lL [3] hs ?_;refine wcb hm (fun hb hm => ?_) fun hb hm => ?_
  ·refine wskip ?_;exact ⟨rfl, _, _, hm, hst, rfl⟩
  refine wseq ?_;refine Wp.cutK [0, 1000000] (fun f w_30 => ∃ col_31 v_32, m_lex_letter_J4 p0_c v_32 = some r ∧ St w0 (col0 col) col_31 w_30 ∧ [3].map f = [.bool v_32]) ?_ ?_
  ·intro f w_30 hJ;obtain ⟨col_31, v_32, hm, hst, hs⟩ := hJ;rw [m_lex_letter_J4.eq_1] at hm;refine .lL [3] hs ?_;refine wcb hm (fun hb hm => ?_) fun hb hm => go ?_
   ·refine wskip ?_;exact ⟨rfl, _, _, hm, hst, rfl⟩
   exact ⟨rfl, _, _, hm, hst, rfl⟩
  refine go ?_;refine bcb hm (fun hg_33 hm => go ?_) fun hg_33 hm => go ?_
  ·refine lV (.bool (decide (p0_c ≤ 122))) (r_pickT (congrArg Value.bool hg_33) rfl) <| go ?_;exact ⟨rfl, _, _, hm, hst, rfl⟩
  refine lV (.bool false) (r_pickF (congrArg Value.bool hg_33) rfl) <| go ?_;exact ⟨rfl, _, _, hm, hst, rfl⟩
 refine go ?_;refine bcb hm (fun hg_34 hm => go ?_) fun hg_34 hm => go ?_
 ·refine lV (.bool (decide (p0_c ≤ 90))) (r_pickT (congrArg Value.bool hg_34) rfl) <| go ?_;exact ⟨rfl, _, _, hm, hst, rfl⟩
 refine lV (.bool false) (r_pickF (congrArg Value.bool hg_34) rfl) <| go ?_;exact ⟨rfl, _, _, hm, hst, rfl⟩
def m_lex_digit_J1 (v_5 : Bool) : Option Bool :=
  some v_5
def m_lex_digit (p0_c : Int) : Option Bool :=
  if (decide (48 ≤ p0_c)) = true then (m_lex_digit_J1 (decide (p0_c ≤ 57))) else (m_lex_digit_J1 false)
theorem c_lex_digit {col : Col} {w0 : World} {p0_c : Int} {r : Bool} (hm : m_lex_digit p0_c = some r)  :
    Calls Try.prog 39 #[(.int .u8 p0_c)] w0 (fun e w' => e = .returned ((.bool r)) ∧ Below w0.heap.size w0 w') := by
 refine calls_of1 2 (m := 9) Try.func39 rfl rfl rfl rfl rfl ?_;rw [m_lex_digit.eq_1] at hm;have hst := St.start col w0;refine wseq <| wregion <| lAB rfl <| lnil <| wseq ?_;refine Wp.cutK [1000000] (fun f w_3 => ∃ col_4 v_5, m_lex_digit_J1 v_5 = some r ∧ St w0 (col0 col) col_4 w_3 ∧ [2].map f = [.bool v_5]) ?_ ?_
 ·intro f w_3 hJ;obtain ⟨col_4, v_5, hm, hst, hs⟩ := hJ;rw [m_lex_digit_J1.eq_1] at hm;refine .lL [2] hs <| wret ?_;cases hm;exact ⟨rfl, rfl, hst.below⟩
 refine go ?_;refine bcb hm (fun hg_6 hm => go ?_) fun hg_6 hm => go ?_
 ·refine lV (.bool (decide (p0_c ≤ 57))) (r_pickT (congrArg Value.bool hg_6) rfl) <| go ?_;exact ⟨rfl, _, _, hm, hst, rfl⟩
 refine lV (.bool false) (r_pickF (congrArg Value.bool hg_6) rfl) <| go ?_;exact ⟨rfl, _, _, hm, hst, rfl⟩
def m_lex_inWord_J1 (v_21 : Bool) : Option Bool :=
  some v_21
def m_lex_inWord (p0_c : Int) : Option Bool :=
  (m_lex_letter p0_c).bind fun r_22 => if r_22 = true then (m_lex_inWord_J1 true) else ((m_lex_digit p0_c).bind fun r_27 => m_lex_inWord_J1 r_27)
theorem c_lex_inWord {col : Col} {w0 : World} {p0_c : Int} {r : Bool} (hm : m_lex_inWord p0_c = some r)  :
    Calls Try.prog 35 #[(.int .u8 p0_c)] w0 (fun e w' => e = .returned ((.bool r)) ∧ Below w0.heap.size w0 w') := by
 refine calls_of1 2 (m := 9) Try.func35 rfl rfl rfl rfl rfl ?_;rw [m_lex_inWord.eq_1] at hm;have hst := St.start col w0;refine wseq <| wregion <| lAB rfl <| lnil <| wseq ?_;refine Wp.cutK [1000000] (fun f w_19 => ∃ col_20 v_21, m_lex_inWord_J1 v_21 = some r ∧ St w0 (col0 col) col_20 w_19 ∧ [2].map f = [.bool v_21]) ?_ ?_
 ·intro f w_19 hJ;obtain ⟨col_20, v_21, hm, hst, hs⟩ := hJ;rw [m_lex_inWord_J1.eq_1] at hm;refine .lL [2] hs <| wret ?_;cases hm;exact ⟨rfl, rfl, hst.below⟩
 refine go ?_;obtain ⟨r_22, hr_23, hm⟩ := bZ hm;refine lcA (c_lex_letter (col := (col0 col)) hr_23) ?_;rintro _ w_24 ⟨rfl, hg_25⟩;refine ⟨_, rfl, ?_⟩;replace hg_25 : Grow (col0 col) w0 (col0 col) w_24 := .of_below hg_25;refine lMB rfl ?_;replace hst := hst.grow hg_25;refine bcb hm (fun hg_26 hm => go ?_) fun hg_26 hm => go ?_
 ·refine lV (.bool true) (r_pickT (congrArg Value.bool hg_26) rfl) <| go ?_;exact ⟨rfl, _, _, hm, hst, rfl⟩
 obtain ⟨r_27, hr_28, hm⟩ := bZ hm;refine lcA (c_lex_digit (col := (col0 col)) hr_28) ?_;rintro _ w_29 ⟨rfl, hg_30⟩;refine ⟨_, rfl, ?_⟩;replace hg_30 : Grow (col0 col) w_24 (col0 col) w_29 := .of_below hg_30;refine lV (.bool r_27) (r_pickF (congrArg Value.bool hg_26) rfl) <| go ?_;replace hst := hst.grow hg_30;exact ⟨rfl, _, _, hm, hst, rfl⟩
def m_lex_run_v2f35_J1 (n_4 : Int) (kk_L1 : (Int → Option Int)) (v_21 : Bool) : Option Int :=
  if v_21 = true then (kk_L1 (IntKind.i64.wrap (n_4 + 1))) else (some n_4)
def m_lex_run_v2f35_L1 (N : Nat) (p0_s : ByteArray) (p1_at : Int) : Nat → Int → Option Int
  | 0, _ => none
  | n_1 + 1, n_4 => if (decide ((IntKind.i64.wrap (p1_at + n_4)) < (p0_s.size : Int))) = true then ((bat? p0_s (IntKind.i64.wrap (p1_at + n_4))).bind fun e_23 => (m_lex_inWord e_23).bind fun r_25 => m_lex_run_v2f35_J1 n_4 (m_lex_run_v2f35_L1 N p0_s p1_at n_1) r_25) else (m_lex_run_v2f35_J1 n_4 (m_lex_run_v2f35_L1 N p0_s p1_at n_1) false)
termination_by structural x => x
def m_lex_run_v2f35 (N : Nat) (p0_s : ByteArray) (p1_at : Int) : Option Int :=
  m_lex_run_v2f35_L1 N p0_s p1_at N 0
theorem c_lex_run_v2f35 {N : Nat} {col : Col} {w0 : World} {p0_s : ByteArray} {p1_at r : Int} (hm : m_lex_run_v2f35 N p0_s p1_at = some r)  :
    Calls Try.prog 34 #[(.string p0_s), (.int .i64 p1_at), (.func (.func 35) #[] #[])] w0 (fun e w' => e = .returned ((.int .i64 r)) ∧ Below w0.heap.size w0 w') := by
 refine calls_of1 6 (m := 26) Try.func34 rfl rfl rfl rfl rfl ?_;rw [m_lex_run_v2f35.eq_1] at hm;have hst := St.start col w0;refine go ?_;refine wloopK [0, 1, 2, 1000000] (fun n f w_2 => ∃ col_3 n_4 n_1, n_1 = n ∧ m_lex_run_v2f35_L1 N p0_s p1_at n_1 n_4 = some r ∧ St w0 (col0 col) col_3 w_2 ∧ [7].map f = [.int .i64 n_4]) N ⟨_, 0, _, rfl, hm, hst, rfl⟩ ?_;clear hm; intro n f w_2 hI;obtain ⟨col_3, n_4, n_1, hn, hm, hst, hs⟩ := hI;subst hn;refine .lL [7] hs ?_
 cases n_1 with
 | zero => rw [m_lex_run_v2f35_L1.eq_1] at hm; cases hm
 | succ n_1 =>
  rw [m_lex_run_v2f35_L1.eq_2] at hm;refine wseq <| wseq ?_;refine Wp.cutK [0, 1, 2, 7, 1000000] (fun f w_19 => ∃ col_20 v_21, m_lex_run_v2f35_J1 n_4 (m_lex_run_v2f35_L1 N p0_s p1_at n_1) v_21 = some r ∧ St w0 (col0 col) col_20 w_19 ∧ [22].map f = [.bool v_21]) ?_ ?_
  ·intro f w_19 hJ;obtain ⟨col_20, v_21, hm, hst, hs⟩ := hJ;rw [m_lex_run_v2f35_J1.eq_1] at hm;refine .lL [22] hs ?_;refine wcb hm (fun hb hm => go ?_) fun hb hm => go ?_
   ·exact ⟨n_1, by omega, rfl, ⟨_, _, _, rfl, hm, hst, rfl⟩⟩
   cases hm;exact ⟨rfl, rfl, hst.below⟩
  refine go ?_;refine bcb hm (fun hg_22 hm => go ?_) fun hg_22 hm => go ?_
  ·refine lM (.func (.func 35) #[] #[]) <| go ?_;obtain ⟨e_23, hj_24, hm⟩ := bZ hm;refine lV (.int .u8 e_23) (r_indexS (s := p0_s) Try.underlying9 rfl rfl hj_24) <| go ?_;obtain ⟨r_25, hr_26, hm⟩ := bZ hm;refine lc rfl rfl (r_callv1 Try.call35 rfl rfl) (c_lex_inWord (col := col_3) hr_26 :) ?_;rintro _ w_27 ⟨rfl, hg_28⟩;refine ⟨_, rfl, ?_⟩;replace hg_28 : Grow col_3 w_2 col_3 w_27 := .of_below hg_28;refine lV (.bool r_25) (r_pickT (congrArg Value.bool hg_22) rfl) <| lnil ?_;replace hst := hst.grow hg_28;exact ⟨rfl, _, _, hm, hst, rfl⟩
  refine lV (.bool false) (r_pickF (congrArg Value.bool hg_22) rfl) <| lnil ?_;exact ⟨rfl, _, _, hm, hst, rfl⟩
def m_lex_Name_J1 (v_29 : Bool) : Option Bool :=
  some v_29
def m_lex_Name (N : Nat) (p0_s : ByteArray) : Option Bool :=
  if (!decide (p0_s = (⟨#[]⟩))) = true then (if (decide ((p0_s.size : Int) ≤ 64)) = true then ((bat? p0_s 0).bind fun e_32 => (m_lex_letter e_32).bind fun r_34 => if r_34 = true then ((m_lex_run_v2f35 N p0_s 0).bind fun r_39 => m_lex_Name_J1 (decide (r_39 = (p0_s.size : Int)))) else (m_lex_Name_J1 false)) else (m_lex_Name_J1 false)) else (m_lex_Name_J1 false)
theorem c_lex_Name {N : Nat} {col : Col} {w0 : World} {p0_s : ByteArray} {r : Bool} (hm : m_lex_Name N p0_s = some r)  :
    Calls Try.prog 27 #[(.string p0_s)] w0 (fun e w' => e = .returned ((.bool r)) ∧ Below w0.heap.size w0 w') := by
 refine calls_of1 2 (m := 22) Try.func27 rfl rfl rfl rfl rfl ?_;rw [m_lex_Name.eq_1] at hm;have hst := St.start col w0;refine wseq <| wregion <| lAB rfl <| lnil <| wseq ?_;refine Wp.cutK [1000000] (fun f w_27 => ∃ col_28 v_29, m_lex_Name_J1 v_29 = some r ∧ St w0 (col0 col) col_28 w_27 ∧ [2].map f = [.bool v_29]) ?_ ?_
 ·intro f w_27 hJ;obtain ⟨col_28, v_29, hm, hst, hs⟩ := hJ;rw [m_lex_Name_J1.eq_1] at hm;refine .lL [2] hs <| wret ?_;cases hm;exact ⟨rfl, rfl, hst.below⟩
 refine go ?_;refine bcb hm (fun hg_30 hm => go ?_) fun hg_30 hm => go ?_
 ·refine lV (.bool (decide ((p0_s.size : Int) ≤ 64))) (r_pickT (congrArg Value.bool hg_30) rfl) <| lMB rfl ?_;refine bcb hm (fun hg_31 hm => go ?_) fun hg_31 hm => go ?_
  ·obtain ⟨e_32, hj_33, hm⟩ := bZ hm;refine lV (.int .u8 e_32) (r_indexS (s := p0_s) Try.underlying9 rfl rfl hj_33) <| go ?_;obtain ⟨r_34, hr_35, hm⟩ := bZ hm;refine lcA (c_lex_letter (col := (col0 col)) hr_35) ?_;rintro _ w_36 ⟨rfl, hg_37⟩;refine ⟨_, rfl, ?_⟩;replace hg_37 : Grow (col0 col) w0 (col0 col) w_36 := .of_below hg_37;refine lV (.bool r_34) (r_pickT (congrArg Value.bool hg_31) rfl) <| lMB rfl ?_;replace hst := hst.grow hg_37;refine bcb hm (fun hg_38 hm => go ?_) fun hg_38 hm => go ?_
   ·obtain ⟨r_39, hr_40, hm⟩ := bZ hm;refine lcA (c_lex_run_v2f35 (col := (col0 col)) hr_40) ?_;rintro _ w_41 ⟨rfl, hg_42⟩;refine ⟨_, rfl, ?_⟩;replace hg_42 : Grow (col0 col) w_36 (col0 col) w_41 := .of_below hg_42;refine go ?_;refine lV (.bool (decide (r_39 = (p0_s.size : Int)))) (r_pickT (congrArg Value.bool hg_38) rfl) <| go ?_;replace hst := hst.grow hg_42;exact ⟨rfl, _, _, hm, hst, rfl⟩
   refine lV (.bool false) (r_pickF (congrArg Value.bool hg_38) rfl) <| go ?_;exact ⟨rfl, _, _, hm, hst, rfl⟩
  refine lV (.bool false) (r_pickF (congrArg Value.bool hg_31) rfl) <| lMB rfl <| lP 15 rfl rfl <| lP 15 rfl rfl <| lP 15 rfl rfl <| lP 15 rfl rfl <| lP 15 rfl rfl <| lV (.bool false) (r_pickF rfl rfl) <| go ?_;exact ⟨rfl, _, _, hm, hst, rfl⟩
 refine lV (.bool false) (r_pickF (congrArg Value.bool hg_30) rfl) <| lMB rfl <| lP 10 rfl rfl <| lP 10 rfl rfl <| lP 10 rfl rfl <| lV (.bool false) (r_pickF rfl rfl) <| lMB rfl <| lP 15 rfl rfl <| lP 15 rfl rfl <| lP 15 rfl rfl <| lP 15 rfl rfl <| lP 15 rfl rfl <| lV (.bool false) (r_pickF rfl rfl) <| go ?_;exact ⟨rfl, _, _, hm, hst, rfl⟩
def m_r06_Letter_J1 (v_15 : Bool) : Option Bool :=
  some v_15
def m_r06_Letter (p0_c : Int) : Option Bool :=
  if (decide (65 ≤ p0_c)) = true then (if (decide (p0_c ≤ 90)) = true then (m_r06_Letter_J1 true) else (if (decide (97 ≤ p0_c)) = true then (if (decide (p0_c ≤ 122)) = true then (m_r06_Letter_J1 true) else (m_r06_Letter_J1 (decide (p0_c = 95)))) else (m_r06_Letter_J1 (decide (p0_c = 95))))) else (if (decide (97 ≤ p0_c)) = true then (if (decide (p0_c ≤ 122)) = true then (m_r06_Letter_J1 true) else (m_r06_Letter_J1 (decide (p0_c = 95)))) else (m_r06_Letter_J1 (decide (p0_c = 95))))
theorem c_r06_Letter {col : Col} {w0 : World} {p0_c : Int} {r : Bool} (hm : m_r06_Letter p0_c = some r)  :
    Calls Try.prog 29 #[(.int .u8 p0_c)] w0 (fun e w' => e = .returned ((.bool r)) ∧ Below w0.heap.size w0 w') := by
 refine calls_of1 2 (m := 21) Try.func29 rfl rfl rfl rfl rfl ?_;rw [m_r06_Letter.eq_1] at hm;have hst := St.start col w0;refine wseq <| wregion <| lAB rfl <| lnil <| wseq ?_;refine Wp.cutK [1000000] (fun f w_13 => ∃ col_14 v_15, m_r06_Letter_J1 v_15 = some r ∧ St w0 (col0 col) col_14 w_13 ∧ [2].map f = [.bool v_15]) ?_ ?_
 ·intro f w_13 hJ;obtain ⟨col_14, v_15, hm, hst, hs⟩ := hJ;rw [m_r06_Letter_J1.eq_1] at hm;refine .lL [2] hs <| wret ?_;cases hm;exact ⟨rfl, rfl, hst.below⟩
 refine go ?_;refine bcb hm (fun hg_16 hm => go ?_) fun hg_16 hm => go ?_
 ·refine lV (.bool (decide (p0_c ≤ 90))) (r_pickT (congrArg Value.bool hg_16) rfl) <| lMB rfl ?_;refine bcb hm (fun hg_17 hm => go ?_) fun hg_17 hm => go ?_
  ·refine lpU 12 rfl rfl rfl rfl <| lpU 12 rfl rfl rfl rfl <| go ?_;refine lV (.bool true) (r_pickT (congrArg Value.bool hg_17) rfl) <| lMB rfl <| lP 17 rfl rfl <| lP 17 rfl rfl <| lV (.bool true) (r_pickT rfl rfl) <| go ?_;exact ⟨rfl, _, _, hm, hst, rfl⟩
  refine bcb hm (fun hg_18 hm => go ?_) fun hg_18 hm => go ?_
  ·refine lV (.bool (decide (p0_c ≤ 122))) (r_pickT (congrArg Value.bool hg_18) rfl) <| lV (.bool (decide (p0_c ≤ 122))) (r_pickF (congrArg Value.bool hg_17) rfl) <| lMB rfl ?_;refine bcb hm (fun hg_19 hm => go ?_) fun hg_19 hm => go ?_
   ·refine lV (.bool true) (r_pickT (congrArg Value.bool hg_19) rfl) <| go ?_;exact ⟨rfl, _, _, hm, hst, rfl⟩
   refine lV (.bool (decide (p0_c = 95))) (r_pickF (congrArg Value.bool hg_19) rfl) <| go ?_;exact ⟨rfl, _, _, hm, hst, rfl⟩
  refine lV (.bool false) (r_pickF (congrArg Value.bool hg_18) rfl) <| lV (.bool false) (r_pickF (congrArg Value.bool hg_17) rfl) <| lMB rfl <| lG 17 rfl rfl <| lMI rfl <| lG 17 rfl rfl <| go ?_;refine lV (.bool (decide (p0_c = 95))) (r_pickF rfl rfl) <| go ?_;exact ⟨rfl, _, _, hm, hst, rfl⟩
 refine lV (.bool false) (r_pickF (congrArg Value.bool hg_16) rfl) <| lMB rfl <| lG 9 rfl rfl <| lMI rfl <| lG 9 rfl rfl <| go ?_;refine lG 9 rfl rfl <| lMB rfl ?_;refine bcb hm (fun hg_20 hm => go ?_) fun hg_20 hm => go ?_
 ·refine lG 9 rfl rfl <| lV (.bool (decide (p0_c ≤ 122))) (r_pickT (congrArg Value.bool hg_20) rfl) <| lV (.bool (decide (p0_c ≤ 122))) (r_pickF rfl rfl) <| lMB rfl ?_;refine bcb hm (fun hg_21 hm => go ?_) fun hg_21 hm => go ?_
  ·refine lV (.bool true) (r_pickT (congrArg Value.bool hg_21) rfl) <| go ?_;exact ⟨rfl, _, _, hm, hst, rfl⟩
  refine lV (.bool (decide (p0_c = 95))) (r_pickF (congrArg Value.bool hg_21) rfl) <| go ?_;exact ⟨rfl, _, _, hm, hst, rfl⟩
 refine lG 9 rfl rfl <| lV (.bool false) (r_pickF (congrArg Value.bool hg_20) rfl) <| lV (.bool false) (r_pickF rfl rfl) <| lMB rfl <| lG 17 rfl rfl <| lMI rfl <| lG 17 rfl rfl <| go ?_;refine lV (.bool (decide (p0_c = 95))) (r_pickF rfl rfl) <| go ?_;exact ⟨rfl, _, _, hm, hst, rfl⟩
def m_r06_Digit_J1 (v_5 : Bool) : Option Bool :=
  some v_5
def m_r06_Digit (p0_c : Int) : Option Bool :=
  if (decide (48 ≤ p0_c)) = true then (m_r06_Digit_J1 (decide (p0_c ≤ 57))) else (m_r06_Digit_J1 false)
theorem c_r06_Digit {col : Col} {w0 : World} {p0_c : Int} {r : Bool} (hm : m_r06_Digit p0_c = some r)  :
    Calls Try.prog 36 #[(.int .u8 p0_c)] w0 (fun e w' => e = .returned ((.bool r)) ∧ Below w0.heap.size w0 w') := by
 refine calls_of1 2 (m := 9) Try.func36 rfl rfl rfl rfl rfl ?_;rw [m_r06_Digit.eq_1] at hm;have hst := St.start col w0;refine wseq <| wregion <| lAB rfl <| lnil <| wseq ?_;refine Wp.cutK [1000000] (fun f w_3 => ∃ col_4 v_5, m_r06_Digit_J1 v_5 = some r ∧ St w0 (col0 col) col_4 w_3 ∧ [2].map f = [.bool v_5]) ?_ ?_
 ·intro f w_3 hJ;obtain ⟨col_4, v_5, hm, hst, hs⟩ := hJ;rw [m_r06_Digit_J1.eq_1] at hm;refine .lL [2] hs <| wret ?_;cases hm;exact ⟨rfl, rfl, hst.below⟩
 refine go ?_;refine bcb hm (fun hg_6 hm => go ?_) fun hg_6 hm => go ?_
 ·refine lV (.bool (decide (p0_c ≤ 57))) (r_pickT (congrArg Value.bool hg_6) rfl) <| go ?_;exact ⟨rfl, _, _, hm, hst, rfl⟩
 refine lV (.bool false) (r_pickF (congrArg Value.bool hg_6) rfl) <| go ?_;exact ⟨rfl, _, _, hm, hst, rfl⟩
def m_r06_word_J1 (n_4 : Int) (kk_L1 : (Int → Option Int)) : Option Int :=
  kk_L1 (IntKind.i64.wrap (n_4 + 1))
def m_r06_word_J2 (n_4 : Int) (kk_L1 : (Int → Option Int)) (v_23 : Bool) : Option Int :=
  if v_23 = true then (some n_4) else (m_r06_word_J1 n_4 kk_L1)
def m_r06_word_L1 (N : Nat) (p0_s : ByteArray) (p1_i : Int) : Nat → Int → Option Int
  | 0, _ => none
  | n_1 + 1, n_4 => if (decide ((IntKind.i64.wrap (p1_i + n_4)) < (p0_s.size : Int))) = true then ((bat? p0_s (IntKind.i64.wrap (p1_i + n_4))).bind fun e_5 => (m_r06_Letter e_5).bind fun r_7 => (bat? p0_s (IntKind.i64.wrap (p1_i + n_4))).bind fun e_11 => (m_r06_Digit e_11).bind fun r_13 => if (!r_7) = true then (m_r06_word_J2 n_4 (m_r06_word_L1 N p0_s p1_i n_1) (!r_13)) else (m_r06_word_J2 n_4 (m_r06_word_L1 N p0_s p1_i n_1) false)) else (some n_4)
termination_by structural x => x
def m_r06_word (N : Nat) (p0_s : ByteArray) (p1_i : Int) : Option Int :=
  m_r06_word_L1 N p0_s p1_i N 0
theorem c_r06_word {N : Nat} {col : Col} {w0 : World} {p0_s : ByteArray} {p1_i r : Int} (hm : m_r06_word N p0_s p1_i = some r)  :
    Calls Try.prog 30 #[(.string p0_s), (.int .i64 p1_i)] w0 (fun e w' => e = .returned ((.int .i64 r)) ∧ Below w0.heap.size w0 w') := by
 refine calls_of1 4 (m := 36) Try.func30 rfl rfl rfl rfl rfl ?_;rw [m_r06_word.eq_1] at hm;have hst := St.start col w0;refine go ?_;refine wloopK [0, 1, 1000000] (fun n f w_2 => ∃ col_3 n_4 n_1, n_1 = n ∧ m_r06_word_L1 N p0_s p1_i n_1 n_4 = some r ∧ St w0 (col0 col) col_3 w_2 ∧ [5].map f = [.int .i64 n_4]) N ⟨_, 0, _, rfl, hm, hst, rfl⟩ ?_;clear hm; intro n f w_2 hI;obtain ⟨col_3, n_4, n_1, hn, hm, hst, hs⟩ := hI;subst hn;refine .lL [5] hs ?_
 cases n_1 with
 | zero => rw [m_r06_word_L1.eq_1] at hm; cases hm
 | succ n_1 =>
  rw [m_r06_word_L1.eq_2] at hm;refine go ?_;refine wcb hm (fun hb hm => go ?_) fun hb hm => go ?_
  ·obtain ⟨e_5, hj_6, hm⟩ := bZ hm;refine lV (.int .u8 e_5) (r_indexS (s := p0_s) Try.underlying9 rfl rfl hj_6) ?_;obtain ⟨r_7, hr_8, hm⟩ := bZ hm;refine lcA (c_r06_Letter (col := col_3) hr_8) ?_;rintro _ w_9 ⟨rfl, hg_10⟩;refine ⟨_, rfl, ?_⟩;replace hg_10 : Grow col_3 w_2 col_3 w_9 := .of_below hg_10;refine go ?_;obtain ⟨e_11, hj_12, hm⟩ := bZ hm;refine lV (.int .u8 e_11) (r_indexS (s := p0_s) Try.underlying9 rfl rfl hj_12) ?_;obtain ⟨r_13, hr_14, hm⟩ := bZ hm;refine lcA (c_r06_Digit (col := col_3) hr_14) ?_;rintro _ w_15 ⟨rfl, hg_16⟩;refine ⟨_, rfl, ?_⟩;replace hg_16 : Grow col_3 w_9 col_3 w_15 := .of_below hg_16;refine lAB rfl <| lnil <| wseq ?_;replace hst := (hst.grow hg_10).grow hg_16;refine Wp.cutK [0, 1, 5, 1000000] (fun f w_17 => ∃ col_18, m_r06_word_J1 n_4 (m_r06_word_L1 N p0_s p1_i n_1)  = some r ∧ St w0 (col0 col) col_18 w_17) ?_ ?_
   ·intro f w_17 hJ;obtain ⟨col_18, hm, hst⟩ := hJ;rw [m_r06_word_J1.eq_1] at hm;refine go ?_;exact ⟨n_1, by omega, rfl, ⟨_, _, _, rfl, hm, hst, rfl⟩⟩
   refine wseq ?_;refine Wp.cutK [0, 1, 5, 1000000] (fun f w_21 => ∃ col_22 v_23, m_r06_word_J2 n_4 (m_r06_word_L1 N p0_s p1_i n_1) v_23 = some r ∧ St w0 (col0 col) col_22 w_21 ∧ [31].map f = [.bool v_23]) ?_ ?_
   ·intro f w_21 hJ;obtain ⟨col_22, v_23, hm, hst, hs⟩ := hJ;rw [m_r06_word_J2.eq_1] at hm;refine .lL [31] hs ?_;refine wcb hm (fun hb hm => go ?_) fun hb hm => ?_
    ·cases hm;exact ⟨rfl, rfl, hst.below⟩
    refine wskip ?_;exact ⟨rfl, _, hm, hst⟩
   refine go ?_;refine bcb hm (fun hg_24 hm => go ?_) fun hg_24 hm => go ?_
   ·refine lV (.bool (!r_13)) (r_pickT (congrArg Value.bool hg_24) rfl) <| lnil ?_;exact ⟨rfl, _, _, hm, hst, rfl⟩
   refine lV (.bool false) (r_pickF (congrArg Value.bool hg_24) rfl) <| lnil ?_;exact ⟨rfl, _, _, hm, hst, rfl⟩
  cases hm;exact ⟨rfl, rfl, hst.below⟩
def m_r06_Name_J1 (v_29 : Bool) : Option Bool :=
  some v_29
def m_r06_Name (N : Nat) (p0_s : ByteArray) : Option Bool :=
  if (decide (1 ≤ (p0_s.size : Int))) = true then (if (decide ((p0_s.size : Int) ≤ 64)) = true then ((bat? p0_s 0).bind fun e_32 => (m_r06_Letter e_32).bind fun r_34 => if r_34 = true then ((m_r06_word N p0_s 0).bind fun r_39 => m_r06_Name_J1 (decide (r_39 = (p0_s.size : Int)))) else (m_r06_Name_J1 false)) else (m_r06_Name_J1 false)) else (m_r06_Name_J1 false)
theorem c_r06_Name {N : Nat} {col : Col} {w0 : World} {p0_s : ByteArray} {r : Bool} (hm : m_r06_Name N p0_s = some r)  :
    Calls Try.prog 23 #[(.string p0_s)] w0 (fun e w' => e = .returned ((.bool r)) ∧ Below w0.heap.size w0 w') := by
 refine calls_of1 2 (m := 23) Try.func23 rfl rfl rfl rfl rfl ?_;rw [m_r06_Name.eq_1] at hm;have hst := St.start col w0;refine wseq <| wregion <| lAB rfl <| lnil <| wseq ?_;refine Wp.cutK [1000000] (fun f w_27 => ∃ col_28 v_29, m_r06_Name_J1 v_29 = some r ∧ St w0 (col0 col) col_28 w_27 ∧ [2].map f = [.bool v_29]) ?_ ?_
 ·intro f w_27 hJ;obtain ⟨col_28, v_29, hm, hst, hs⟩ := hJ;rw [m_r06_Name_J1.eq_1] at hm;refine .lL [2] hs <| wret ?_;cases hm;exact ⟨rfl, rfl, hst.below⟩
 refine go ?_;refine bcb hm (fun hg_30 hm => go ?_) fun hg_30 hm => go ?_
 ·refine lV (.bool (decide ((p0_s.size : Int) ≤ 64))) (r_pickT (congrArg Value.bool hg_30) rfl) <| lMB rfl ?_;refine bcb hm (fun hg_31 hm => go ?_) fun hg_31 hm => go ?_
  ·obtain ⟨e_32, hj_33, hm⟩ := bZ hm;refine lV (.int .u8 e_32) (r_indexS (s := p0_s) Try.underlying9 rfl rfl hj_33) <| go ?_;obtain ⟨r_34, hr_35, hm⟩ := bZ hm;refine lcA (c_r06_Letter (col := (col0 col)) hr_35) ?_;rintro _ w_36 ⟨rfl, hg_37⟩;refine ⟨_, rfl, ?_⟩;replace hg_37 : Grow (col0 col) w0 (col0 col) w_36 := .of_below hg_37;refine lV (.bool r_34) (r_pickT (congrArg Value.bool hg_31) rfl) <| lMB rfl ?_;replace hst := hst.grow hg_37;refine bcb hm (fun hg_38 hm => go ?_) fun hg_38 hm => go ?_
   ·obtain ⟨r_39, hr_40, hm⟩ := bZ hm;refine lcA (c_r06_word (col := (col0 col)) hr_40) ?_;rintro _ w_41 ⟨rfl, hg_42⟩;refine ⟨_, rfl, ?_⟩;replace hg_42 : Grow (col0 col) w_36 (col0 col) w_41 := .of_below hg_42;refine go ?_;refine lV (.bool (decide (r_39 = (p0_s.size : Int)))) (r_pickT (congrArg Value.bool hg_38) rfl) <| go ?_;replace hst := hst.grow hg_42;exact ⟨rfl, _, _, hm, hst, rfl⟩
   refine lV (.bool false) (r_pickF (congrArg Value.bool hg_38) rfl) <| go ?_;exact ⟨rfl, _, _, hm, hst, rfl⟩
  refine lV (.bool false) (r_pickF (congrArg Value.bool hg_31) rfl) <| lMB rfl <| lP 16 rfl rfl <| lP 16 rfl rfl <| lP 16 rfl rfl <| lP 16 rfl rfl <| lP 16 rfl rfl <| lV (.bool false) (r_pickF rfl rfl) <| go ?_;exact ⟨rfl, _, _, hm, hst, rfl⟩
 refine lV (.bool false) (r_pickF (congrArg Value.bool hg_30) rfl) <| lMB rfl <| lP 11 rfl rfl <| lP 11 rfl rfl <| lP 11 rfl rfl <| lV (.bool false) (r_pickF rfl rfl) <| lMB rfl <| lP 16 rfl rfl <| lP 16 rfl rfl <| lP 16 rfl rfl <| lP 16 rfl rfl <| lP 16 rfl rfl <| lV (.bool false) (r_pickF rfl rfl) <| go ?_;exact ⟨rfl, _, _, hm, hst, rfl⟩
theorem sints_app (a b : ByteArray) : sints (a ++ b) = sints a ++ sints b := by
 rw [sints, sints, sints, ByteArray.toList_data_append, List.map_append]
theorem sints_rng {s : ByteArray} {x : Int} (h : x ∈ sints s) : 0 ≤ x ∧ x < 256 := by
 obtain ⟨b, _, rfl⟩ := List.mem_map.1 h
 have := b.toNat_lt
 omega
theorem bstr_sints (s : ByteArray) : bstr (sints s) = s := by
 rw [bstr_u]
 have h : ubytes (sints s) = s.data.toList := by
  rw [ubytes, sints, List.map_map]
  conv => rhs; rw [← List.map_id s.data.toList]
  refine List.map_congr_left fun b _ => ?_
  simp
 rw [h]
theorem bat_sints (s : ByteArray) (i : Nat) : bat? s (i : Int) = (sints s)[i]? := by
 unfold bat? sints
 rw [if_pos (by omega), Int.toNat_natCast, List.getElem?_map, Array.getElem?_toList]
 by_cases h : i < s.size
 ·rw [getElem?_pos s i h, getElem?_pos s.data i h]; rfl
 ·rw [getElem?_neg s i h, getElem?_neg s.data i h]
theorem bat_lt {s : ByteArray} {i : Nat} (h : i < s.size) : bat? s (i : Int) = some ((sints s)[i]'(by rw [sints_len]; exact h)) := by
 rw [bat_sints, List.getElem?_eq_getElem]
theorem size0 {s : ByteArray} (h : s.size = 0) : s = ⟨#[]⟩ := by
 apply ByteArray.ext
 exact Array.eq_empty_of_size_eq_zero h
theorem nil_appB (b : ByteArray) : (⟨#[]⟩ : ByteArray) ++ b = b := ByteArray.empty_append
theorem app_nilB (b : ByteArray) : b ++ (⟨#[]⟩ : ByteArray) = b := ByteArray.append_empty
def letB (c : Int) : Bool := decide (65 ≤ c ∧ c ≤ 90 ∨ 97 ≤ c ∧ c ≤ 122 ∨ c = 95)
def digB (c : Int) : Bool := decide (48 ≤ c ∧ c ≤ 57)
def wrdB (c : Int) : Bool := letB c || digB c
theorem lex_letter_eq (c : Int) : m_lex_letter c = some (letB c) := by
 by_cases h1 : 65 ≤ c <;> by_cases h2 : c ≤ 90 <;> by_cases h3 : 97 ≤ c <;> by_cases h4 : c ≤ 122 <;> by_cases h5 : c = 95 <;>
  simp [m_lex_letter, m_lex_letter_J1, m_lex_letter_J2, m_lex_letter_J3, m_lex_letter_J4, letB, *]
theorem ref_letter_eq (c : Int) : m_r06_Letter c = some (letB c) := by
 by_cases h1 : 65 ≤ c <;> by_cases h2 : c ≤ 90 <;> by_cases h3 : 97 ≤ c <;> by_cases h4 : c ≤ 122 <;> by_cases h5 : c = 95 <;>
  simp [m_r06_Letter, m_r06_Letter_J1, letB, *]
theorem lex_digit_eq (c : Int) : m_lex_digit c = some (digB c) := by
 by_cases h1 : 48 ≤ c <;> by_cases h2 : c ≤ 57 <;> simp [m_lex_digit, m_lex_digit_J1, digB, *]
theorem ref_digit_eq (c : Int) : m_r06_Digit c = some (digB c) := by
 by_cases h1 : 48 ≤ c <;> by_cases h2 : c ≤ 57 <;> simp [m_r06_Digit, m_r06_Digit_J1, digB, *]
theorem inWord_eq (c : Int) : m_lex_inWord c = some (wrdB c) := by
 rw [m_lex_inWord, lex_letter_eq, oB]
 cases h : letB c with
 | true => rw [if_pos rfl, m_lex_inWord_J1, wrdB, h]; rfl
 | false => rw [if_neg (by decide), lex_digit_eq, oB, m_lex_inWord_J1, wrdB, h]; rfl
def runS (B : Int → Bool) (l : List Int) : Nat := (l.takeWhile B).length
theorem runS_cons (B : Int → Bool) (c : Int) (l : List Int) : runS B (c :: l) = if B c = true then runS B l + 1 else 0 := by
 unfold runS
 rw [List.takeWhile_cons]
 split <;> simp
section
variable {N : Nat} {s : ByteArray} (hs : s.size ≤ 1099511627776)
include hs
theorem lex_run_L1 (at_ : Nat) (ha : at_ ≤ s.size) : ∀ (f k : Nat), at_ + k ≤ s.size → s.size < f + at_ + k →
  m_lex_run_v2f35_L1 N s (at_ : Int) f (k : Int) = some ((k + runS wrdB ((sints s).drop (at_ + k)) : Nat) : Int)
 | 0, k, h1, h2 => by omega
 | f + 1, k, h1, h2 => by
  have hl := sints_len s
  rw [m_lex_run_v2f35_L1.eq_2, w64 (by omega)]
  rw [show (at_ : Int) + (k : Int) = ((at_ + k : Nat) : Int) by omega]
  by_cases hk : at_ + k < s.size
  ·rw [if_pos (dT (by omega)), bat_lt hk, oB, inWord_eq, oB, m_lex_run_v2f35_J1, List.drop_eq_getElem_cons (by omega), runS_cons]
   by_cases hw : wrdB ((sints s)[at_ + k]'(by omega)) = true
   ·rw [if_pos hw, if_pos hw, w64 (by omega)]
    have ih := lex_run_L1 at_ ha f (k + 1) (by omega) (by omega)
    rw [show (k : Int) + 1 = ((k + 1 : Nat) : Int) by omega, ih, ← Nat.add_assoc]
    congr 2; omega
   ·rw [if_neg hw, if_neg hw, Nat.add_zero]
  ·rw [if_neg (dF (by omega)), m_lex_run_v2f35_J1, if_neg (by decide), List.drop_eq_nil_of_le (by omega)]
   rfl
theorem lex_run_eq {at_ : Nat} (ha : at_ ≤ s.size) (hN : s.size < N) : m_lex_run_v2f35 N s (at_ : Int) = some ((runS wrdB ((sints s).drop at_) : Nat) : Int) := by
 have := lex_run_L1 hs (N := N) at_ ha N 0 (by omega) (by omega)
 rw [m_lex_run_v2f35]
 rw [Nat.zero_add] at this
 exact this
theorem ref_word_L1 (at_ : Nat) (ha : at_ ≤ s.size) : ∀ (f k : Nat), at_ + k ≤ s.size → s.size < f + at_ + k →
  m_r06_word_L1 N s (at_ : Int) f (k : Int) = some ((k + runS wrdB ((sints s).drop (at_ + k)) : Nat) : Int)
 | 0, k, h1, h2 => by omega
 | f + 1, k, h1, h2 => by
  have hl := sints_len s
  rw [m_r06_word_L1.eq_2, w64 (by omega)]
  rw [show (at_ : Int) + (k : Int) = ((at_ + k : Nat) : Int) by omega]
  by_cases hk : at_ + k < s.size
  ·rw [if_pos (dT (by omega)), bat_lt hk, oB, ref_letter_eq, oB, oB, ref_digit_eq, oB, List.drop_eq_getElem_cons (by omega), runS_cons]
   have ih := ref_word_L1 at_ ha f (k + 1) (by omega) (by omega)
   have step : m_r06_word_J1 (k : Int) (m_r06_word_L1 N s (at_ : Int) f) = some ((k + (runS wrdB ((sints s).drop (at_ + k + 1)) + 1) : Nat) : Int) := by
    rw [m_r06_word_J1, w64 (by omega), show (k : Int) + 1 = ((k + 1 : Nat) : Int) by omega, ih, ← Nat.add_assoc]
    congr 2; omega
   cases h1 : letB ((sints s)[at_ + k]'(by omega)) with
   | true =>
    rw [if_neg (by decide), m_r06_word_J2, if_neg (by decide), if_pos (by rw [wrdB, h1]; rfl)]
    exact step
   | false =>
    cases h2 : digB ((sints s)[at_ + k]'(by omega)) with
    | true =>
     rw [if_pos (by decide), m_r06_word_J2, if_neg (by decide), if_pos (by rw [wrdB, h2, Bool.or_true])]
     exact step
    | false =>
     rw [if_pos (by decide), m_r06_word_J2, if_pos (by decide), if_neg (by rw [wrdB, h1, h2]; decide), Nat.add_zero]
  ·rw [if_neg (dF (by omega)), List.drop_eq_nil_of_le (by omega)]
   rfl
theorem ref_word_eq {at_ : Nat} (ha : at_ ≤ s.size) (hN : s.size < N) : m_r06_word N s (at_ : Int) = some ((runS wrdB ((sints s).drop at_) : Nat) : Int) := by
 have := ref_word_L1 hs (N := N) at_ ha N 0 (by omega) (by omega)
 rw [m_r06_word]
 rw [Nat.zero_add] at this
 exact this
end
def nameB (s : ByteArray) : Bool := decide (1 ≤ s.size) && decide (s.size ≤ 64) && letB ((sints s).headD 0) && decide (runS wrdB (sints s) = s.size)
theorem head_at {s : ByteArray} (h : 1 ≤ s.size) : bat? s 0 = some ((sints s).headD 0) := by
 have hl := sints_len s
 rw [show (0 : Int) = ((0 : Nat) : Int) from rfl, bat_sints]
 cases hc : sints s with
 | nil => rw [hc] at hl; simp at hl; omega
 | cons a l => rfl
theorem lex_name_eq {N : Nat} {s : ByteArray} (hs : s.size ≤ 1099511627776) (hN : s.size < N) : m_lex_Name N s = some (nameB s) := by
 rw [m_lex_Name, nameB]
 by_cases h0 : 1 ≤ s.size
 ·rw [if_pos (by rw [decide_eq_false (fun e => by rw [e] at h0; exact absurd h0 (by decide))]; decide), decide_eq_true h0, Bool.true_and]
  by_cases h1 : s.size ≤ 64
  ·rw [if_pos (dT (by omega)), head_at h0, oB, lex_letter_eq, oB, decide_eq_true h1, Bool.true_and]
   cases h2 : letB ((sints s).headD 0) with
   | true =>
    have h3 := lex_run_eq (N := N) hs (at_ := 0) (by omega) hN
    rw [List.drop_zero] at h3
    rw [if_pos rfl, show (0 : Int) = ((0 : Nat) : Int) from rfl, h3, oB, m_lex_Name_J1, Bool.true_and]
    congr 1
    exact decide_eq_decide.2 ⟨fun h => by omega, fun h => by omega⟩
   | false => rw [if_neg (by decide), m_lex_Name_J1]; rfl
  ·rw [if_neg (dF (by omega)), m_lex_Name_J1, decide_eq_false h1]; rfl
 ·have : s = ⟨#[]⟩ := size0 (by omega)
  rw [if_neg (by rw [decide_eq_true this]; decide), m_lex_Name_J1, decide_eq_false h0]; rfl
theorem ref_name_eq {N : Nat} {s : ByteArray} (hs : s.size ≤ 1099511627776) (hN : s.size < N) : m_r06_Name N s = some (nameB s) := by
 rw [m_r06_Name, nameB]
 by_cases h0 : 1 ≤ s.size
 ·rw [if_pos (dT (by omega)), decide_eq_true h0, Bool.true_and]
  by_cases h1 : s.size ≤ 64
  ·rw [if_pos (dT (by omega)), head_at h0, oB, ref_letter_eq, oB, decide_eq_true h1, Bool.true_and]
   cases h2 : letB ((sints s).headD 0) with
   | true =>
    have h3 := ref_word_eq (N := N) hs (at_ := 0) (by omega) hN
    rw [List.drop_zero] at h3
    rw [if_pos rfl, show (0 : Int) = ((0 : Nat) : Int) from rfl, h3, oB, m_r06_Name_J1, Bool.true_and]
    congr 1
    exact decide_eq_decide.2 ⟨fun h => by omega, fun h => by omega⟩
   | false => rw [if_neg (by decide), m_r06_Name_J1]; rfl
  ·rw [if_neg (dF (by omega)), m_r06_Name_J1, decide_eq_false h1]; rfl
 ·rw [if_neg (dF (by omega)), m_r06_Name_J1, decide_eq_false h0]; rfl
theorem el9_22 : ElemOk Try.prog 9 1 16 := ⟨Try.t9, _, rfl, rfl, rfl, rfl, rfl⟩
def m_r23_words_L1 (N : Nat) (p0_l : (List (ByteArray × ByteArray))) : Nat → (List ByteArray) → (List ByteArray) → Int → Option ((List ByteArray) × (List ByteArray))
  | 0, _, _, _ => none
  | n_1 + 1, s_4, names_8, i_12 => if (decide (i_12 < (p0_l.length : Int))) = true then ((at? p0_l i_12).bind fun e_13 => chk (e_13.1.size + (⟨#[61]⟩ : ByteArray).size ≤ maxLen) (chk ((e_13.1 ++ (⟨#[61]⟩)).size + e_13.2.size ≤ maxLen) (chk ((s_4.length + ([(e_13.1 ++ (⟨#[61]⟩)) ++ e_13.2] : List ByteArray).length) * 16 ≤ 140737488355328 ∧ s_4.length + ([(e_13.1 ++ (⟨#[61]⟩)) ++ e_13.2] : List ByteArray).length ≤ maxLen) (chk ((names_8.length + ([e_13.1, e_13.2] : List ByteArray).length) * 16 ≤ 140737488355328 ∧ names_8.length + ([e_13.1, e_13.2] : List ByteArray).length ≤ maxLen) ((m_r23_words_L1 N p0_l n_1) (s_4 ++ ([(e_13.1 ++ (⟨#[61]⟩)) ++ e_13.2] : List ByteArray)) (names_8 ++ ([e_13.1, e_13.2] : List ByteArray)) (IntKind.i64.wrap (i_12 + 1))))))) else (some (s_4, names_8))
termination_by structural x => x
def m_r23_words (N : Nat) (p0_l : (List (ByteArray × ByteArray))) : Option ((List ByteArray) × (List ByteArray)) :=
  m_r23_words_L1 N p0_l N ([] : List ByteArray) ([] : List ByteArray) 0
theorem c_r23_words {N cap0 : Nat} {a0 : Option Addr} {col : Col} {w0 : World} {p0_l : (List (ByteArray × ByteArray))} {r : ((List ByteArray) × (List ByteArray))} (c1 c2 : Nat) (hm : m_r23_words N p0_l = some r) (h0 : Sl (Rep.pair Rep.str Rep.str) col w0 a0 cap0 p0_l) :
    Calls Try.prog 22 #[(.slice a0 p0_l.length cap0)] w0 (fun e w' => ∃ (col' : Col) (ra1 : Option Addr) (rc2 : Nat) (ra4 : Option Addr) (rc5 : Nat), e = .returned (.tuple #[(.slice ra1 r.1.length rc2), (.slice ra4 r.2.length rc5)]) ∧ Grow col w0 col' w' ∧ Own Rep.str 9 c1 col' w' ra1 rc2 r.1 ∧ Own Rep.str 9 c2 col' w' ra4 rc5 r.2) := by
 refine calls_of2 2 3 (m := 43) (args := [(.slice a0 p0_l.length cap0)]) Try.func22 rfl rfl rfl rfl rfl ?_;rw [m_r23_words.eq_1] at hm;have hst := St.start col w0;refine go ?_;refine wloopK [0, 1000000] (fun n f w_2 => ∃ col_3 a_5 cap_6 s_4 a_9 cap_10 names_8 i_12 n_1, n_1 = n ∧ m_r23_words_L1 N p0_l n_1 s_4 names_8 i_12 = some r ∧ St w0 (col0 col) col_3 w_2 ∧ Own Rep.str 9 1 col_3 w_2 a_5 cap_6 s_4 ∧ Own Rep.str 9 2 col_3 w_2 a_9 cap_10 names_8 ∧ [4, 5, 6].map f = [.slice a_5 s_4.length cap_6, .slice a_9 names_8.length cap_10, .int .i64 i_12]) N ⟨_, none, 0, _, none, 0, _, 0, _, rfl, hm, hst, Own.nil, Own.nil, rfl⟩ ?_;clear hm; intro n f w_2 hI;obtain ⟨col_3, a_5, cap_6, s_4, a_9, cap_10, names_8, i_12, n_1, hn, hm, hst, h_7, h_11, hs⟩ := hI;subst hn;refine .lL [4, 5, 6] hs ?_;replace h0 := h0.k0
 cases n_1 with
 | zero => rw [m_r23_words_L1.eq_1] at hm; cases hm
 | succ n_1 =>
  rw [m_r23_words_L1.eq_2] at hm;refine go ?_;refine wcb hm (fun hb hm => go ?_) fun hb hm => go ?_
  ·refine wmix (col := col_3) [(0, 1), (1, 1), (2, 1), (3, 1), (4, 1), (5, 0), (6, 1), (7, 1), (8, 1), (9, 1), (10, 1), (11, 0), (12, 1), (13, 3), (14, 2), (15, 1)] (by kernel_rfl) (by kernel_rfl) <| xu rfl rfl (fun _ => r_mS rfl) ?_;refine xu rfl rfl (fun _ => r_mS rfl) ?_;refine xu rfl rfl (fun _ => r_mI rfl) ?_;obtain ⟨e_13, hj_14, hm⟩ := bZ hm;refine xu rfl rfl (fun _ => r_idx Try.underlying28 Try.sizeOf36 rfl rfl (at?_some hj_14).1 (at?_some hj_14).2.1 ((h0.ks hst).addr hj_14)) ?_;refine xF (sptr_addr ((h0.ks hst).addr hj_14)) ?_;obtain ⟨_, hr_15, hA_16⟩ := (h0.ks hst).atN hj_14;obtain ⟨_, _, rfl, hp_17, hp_18⟩ := rd_pair hr_15;obtain ⟨rfl, _⟩ := hp_17;obtain ⟨rfl, _⟩ := hp_18;refine xW (fun _ hC => ((hA_16).nth (q := 0) rfl).gr (hC.bl col_3)) ?_;obtain ⟨hb_19, hm⟩ := chk_some hm;refine xu (v := (.string (e_13.1 ++ (⟨#[61]⟩)))) rfl rfl (fun _ => r_addS Try.underlying9 rfl rfl hb_19) ?_;refine xu rfl rfl (fun _ => r_mS rfl) ?_;refine xu rfl rfl (fun _ => r_mI rfl) ?_;refine xu rfl rfl (fun _ => r_idx Try.underlying28 Try.sizeOf36 rfl rfl (at?_some hj_14).1 (at?_some hj_14).2.1 ((h0.ks hst).addr hj_14)) ?_;refine xF (sptr_addr ((h0.ks hst).addr hj_14)) ?_;obtain ⟨_, hr_20, hA_21⟩ := (h0.ks hst).atN hj_14;obtain ⟨_, _, rfl, hp_22, hp_23⟩ := rd_pair hr_20;obtain ⟨rfl, _⟩ := hp_22;obtain ⟨rfl, _⟩ := hp_23;refine xW (fun _ hC => ((hA_21).nth (q := 1) rfl).gr (hC.bl col_3)) ?_;obtain ⟨hb_24, hm⟩ := chk_some hm;refine xu (v := (.string ((e_13.1 ++ (⟨#[61]⟩)) ++ e_13.2))) rfl rfl (fun _ => r_addS Try.underlying9 rfl rfl hb_24) ?_;refine xe rfl rfl ?_;intro w_25 hC0;have hC := hC0.bl col_3;refine l_litS (col := col_3) ([(e_13.1 ++ (⟨#[61]⟩)) ++ e_13.2] : List ByteArray) 3 ?_;intro a_26 w_27 col_28 hg_29 h_30;refine lnil <| xk3 col_28 hC0 hg_29 <| xe rfl rfl ?_;intro w_31 hC0;replace h_7 := (h_7.gr hC).gr hg_29;replace h_11 := (h_11.gr hC).gr hg_29;replace hst := (hst.grow hC).grow hg_29;have hC := hC0.bl col_28;obtain ⟨hb_32, hm⟩ := chk_some hm;replace h_7 := h_7.gr hC;replace h_30 := h_30.gr hC;refine l_ext (col := col_28) (w := w_31) (r := Rep.str) (c := 1) (c2 := 1) (h_7.ex) (h_30.srcN NB.str) rfl Try.underlying29 el9_22 rfl rfl rfl hb_32.1 hb_32.2 (by decide) ?_;intro a_33 cap_34 w_35 col_36 hk_37 h_38;refine lnil <| xk col_36 <| xu rfl rfl (fun _ => r_aS rfl) ?_;have h_39 := h_38.new;refine xnil ?_;replace h_11 := (h_11.gr hC).kpp hk_37;replace hst := (hst.grow hC).kpp hk_37;intro w_40 hC;replace hC := hC.bl col_36;refine wmix (col := col_36) [(0, 1), (1, 1), (2, 1), (3, 1), (4, 1), (5, 0), (6, 1), (7, 1), (8, 1), (9, 1), (10, 0), (11, 3), (12, 2), (13, 1)] (by kernel_rfl) (by kernel_rfl) <| xu rfl rfl (fun _ => r_mS rfl) ?_;refine xu rfl rfl (fun _ => r_mS rfl) ?_;refine xu rfl rfl (fun _ => r_mI rfl) ?_;replace hst := hst.grow hC;refine xu rfl rfl (fun _ => r_idx Try.underlying28 Try.sizeOf36 rfl rfl (at?_some hj_14).1 (at?_some hj_14).2.1 ((h0.ks hst).addr hj_14)) ?_;refine xF (sptr_addr ((h0.ks hst).addr hj_14)) ?_
   obtain ⟨_, hr_41, hA_42⟩ := (h0.ks hst).atN hj_14;obtain ⟨_, _, rfl, hp_43, hp_44⟩ := rd_pair hr_41;obtain ⟨rfl, _⟩ := hp_43;obtain ⟨rfl, _⟩ := hp_44;refine xW (fun _ hC => ((hA_42).nth (q := 0) rfl).gr (hC.bl col_36)) ?_;refine xu rfl rfl (fun _ => r_mS rfl) ?_;refine xu rfl rfl (fun _ => r_mI rfl) ?_;refine xu rfl rfl (fun _ => r_idx Try.underlying28 Try.sizeOf36 rfl rfl (at?_some hj_14).1 (at?_some hj_14).2.1 ((h0.ks hst).addr hj_14)) ?_;refine xF (sptr_addr ((h0.ks hst).addr hj_14)) ?_;obtain ⟨_, hr_45, hA_46⟩ := (h0.ks hst).atN hj_14;obtain ⟨_, _, rfl, hp_47, hp_48⟩ := rd_pair hr_45;obtain ⟨rfl, _⟩ := hp_47;obtain ⟨rfl, _⟩ := hp_48;refine xW (fun _ hC => ((hA_46).nth (q := 1) rfl).gr (hC.bl col_36)) ?_;refine xe rfl rfl ?_;intro w_49 hC0;replace h_39 := h_39.gr hC;replace h_11 := h_11.gr hC;have hC := hC0.bl col_36;refine l_litS (col := col_36) ([e_13.1, e_13.2] : List ByteArray) 4 ?_;intro a_50 w_51 col_52 hg_53 h_54;refine lnil <| xk3 col_52 hC0 hg_53 <| xe rfl rfl ?_;intro w_55 hC0;replace h_39 := (h_39.gr hC).gr hg_53;replace h_11 := (h_11.gr hC).gr hg_53;replace hst := (hst.grow hC).grow hg_53;have hC := hC0.bl col_52;obtain ⟨hb_56, hm⟩ := chk_some hm;replace h_11 := h_11.gr hC;replace h_54 := h_54.gr hC;refine l_ext (col := col_52) (w := w_55) (r := Rep.str) (c := 2) (c2 := 2) (h_11.ex) (h_54.srcN NB.str) rfl Try.underlying29 el9_22 rfl rfl rfl hb_56.1 hb_56.2 (by decide) ?_;intro a_57 cap_58 w_59 col_60 hk_61 h_62;refine lnil <| xk col_60 <| xu rfl rfl (fun _ => r_aS rfl) ?_;have h_63 := h_62.new;refine xnil ?_;replace h_39 := (h_39.gr hC).kpp hk_61;replace hst := (hst.grow hC).kpp hk_61;intro w_64 hC;replace hC := hC.bl col_60;refine go ?_;replace h_39 := h_39.gr hC;replace h_63 := h_63.gr hC;replace hst := hst.grow hC;exact ⟨n_1, by omega, rfl, ⟨_, _, _, _, _, _, _, _, _, rfl, hm, hst, h_39, h_63, rfl⟩⟩
  cases hm;exact ⟨rfl, _, _, _, _, _, rfl, hst.fin (cm [(1, c1), (2, c2)]), hst.fo h_7, hst.fo h_11⟩
def m_r23_join_J1 (i_5 : Int) (kk_L1 : (ByteArray → Int → Option ByteArray)) (s_8 : ByteArray) : Option ByteArray :=
  kk_L1 s_8 (IntKind.i64.wrap (i_5 + 1))
def m_r23_join_J2 (p0_l : (List ByteArray)) (i_5 : Int) (kk_L1 : (ByteArray → Int → Option ByteArray)) (s_11 : ByteArray) : Option ByteArray :=
  (at? p0_l i_5).bind fun e_12 => chk (s_11.size + e_12.size ≤ maxLen) (m_r23_join_J1 i_5 kk_L1 (s_11 ++ e_12))
def m_r23_join_L1 (N : Nat) (p0_l : (List ByteArray)) : Nat → ByteArray → Int → Option ByteArray
  | 0, _, _ => none
  | n_1 + 1, s_4, i_5 => if (decide (i_5 < (p0_l.length : Int))) = true then (if (decide (0 < i_5)) = true then (chk (s_4.size + (⟨#[44, 32]⟩ : ByteArray).size ≤ maxLen) (m_r23_join_J2 p0_l i_5 (m_r23_join_L1 N p0_l n_1) (s_4 ++ (⟨#[44, 32]⟩)))) else (m_r23_join_J2 p0_l i_5 (m_r23_join_L1 N p0_l n_1) s_4)) else (some s_4)
termination_by structural x => x
def m_r23_join (N : Nat) (p0_l : (List ByteArray)) : Option ByteArray :=
  m_r23_join_L1 N p0_l N (⟨#[]⟩) 0
theorem c_r23_join {N cap0 : Nat} {a0 : Option Addr} {col : Col} {w0 : World} {p0_l : (List ByteArray)} {r : ByteArray} (hm : m_r23_join N p0_l = some r) (h0 : Sl Rep.str col w0 a0 cap0 p0_l) :
    Calls Try.prog 21 #[(.slice a0 p0_l.length cap0)] w0 (fun e w' => e = .returned ((.string r)) ∧ Below w0.heap.size w0 w') := by
 refine calls_of1 2 (m := 22) Try.func21 rfl rfl rfl rfl rfl ?_;rw [m_r23_join.eq_1] at hm;have hst := St.start col w0;refine go ?_;refine wloopK [0, 1000000] (fun n f w_2 => ∃ col_3 s_4 i_5 n_1, n_1 = n ∧ m_r23_join_L1 N p0_l n_1 s_4 i_5 = some r ∧ St w0 (col0 col) col_3 w_2 ∧ [3, 4].map f = [.string s_4, .int .i64 i_5]) N ⟨_, _, 0, _, rfl, hm, hst, rfl⟩ ?_;clear hm; intro n f w_2 hI;obtain ⟨col_3, s_4, i_5, n_1, hn, hm, hst, hs⟩ := hI;subst hn;refine .lL [3, 4] hs ?_;replace h0 := h0.k0
 cases n_1 with
 | zero => rw [m_r23_join_L1.eq_1] at hm; cases hm
 | succ n_1 =>
  rw [m_r23_join_L1.eq_2] at hm;refine go ?_;refine wcb hm (fun hb hm => ?_) fun hb hm => go ?_
  ·refine wskip <| wseq ?_;refine Wp.cutK [0, 4, 1000000] (fun f w_6 => ∃ col_7 s_8, m_r23_join_J1 i_5 (m_r23_join_L1 N p0_l n_1) s_8 = some r ∧ St w0 (col0 col) col_7 w_6 ∧ [3].map f = [.string s_8]) ?_ ?_
   ·intro f w_6 hJ;obtain ⟨col_7, s_8, hm, hst, hs⟩ := hJ;rw [m_r23_join_J1.eq_1] at hm;refine .lL [3] hs <| go ?_;exact ⟨n_1, by omega, rfl, ⟨_, _, _, _, rfl, hm, hst, rfl⟩⟩
   refine wblock <| wseq ?_;refine Wp.cutK [0, 4, 1000000] (fun f w_9 => ∃ col_10 s_11, m_r23_join_J2 p0_l i_5 (m_r23_join_L1 N p0_l n_1) s_11 = some r ∧ St w0 (col0 col) col_10 w_9 ∧ [3].map f = [.string s_11]) ?_ ?_
   ·intro f w_9 hJ;obtain ⟨col_10, s_11, hm, hst, hs⟩ := hJ;rw [m_r23_join_J2.eq_1] at hm;refine .lL [3] hs <| go ?_;obtain ⟨e_12, hj_13, hm⟩ := bZ hm;refine lI hj_13 ((h0.ks hst).addr hj_13) <| lW ((h0.ks hst).atStr hj_13) ?_;obtain ⟨hb_14, hm⟩ := chk_some hm;refine lV (.string (s_11 ++ e_12)) (r_addS Try.underlying9 rfl rfl hb_14) <| go ?_;exact ⟨rfl, _, _, hm, hst, rfl⟩
   refine go ?_;refine wcb hm (fun hb hm => go ?_) fun hb hm => ?_
   ·obtain ⟨hb_15, hm⟩ := chk_some hm;refine lV (.string (s_4 ++ (⟨#[44, 32]⟩))) (r_addS Try.underlying9 rfl rfl hb_15) <| go ?_;exact ⟨rfl, _, _, hm, hst, rfl⟩
   refine wskip ?_;exact ⟨rfl, _, _, hm, hst, rfl⟩
  cases hm;exact ⟨rfl, rfl, hst.below⟩
def m_r23_say_J3 (r_17 : ((List ByteArray) × (List ByteArray))) (names_41 : List ByteArray) (s_50 : ByteArray) : Option (ByteArray × (List ByteArray)) :=
  chk ((([] : List ByteArray).length + names_41.length) * 16 ≤ 140737488355328 ∧ ([] : List ByteArray).length + names_41.length ≤ maxLen) (chk (((([] : List ByteArray) ++ names_41).length + r_17.2.length) * 16 ≤ 140737488355328 ∧ (([] : List ByteArray) ++ names_41).length + r_17.2.length ≤ maxLen) (chk (s_50.size + (⟨#[59, 10]⟩ : ByteArray).size ≤ maxLen) (some (s_50 ++ (⟨#[59, 10]⟩), (([] : List ByteArray) ++ names_41) ++ r_17.2))))
def m_r23_say_J2 (N : Nat) (r_17 : ((List ByteArray) × (List ByteArray))) (names_41 : List ByteArray) (s_47 : ByteArray) : Option (ByteArray × (List ByteArray)) :=
  if (decide (0 < (r_17.1.length : Int))) = true then (chk (s_47.size + (⟨#[32, 124, 32]⟩ : ByteArray).size ≤ maxLen) ((m_r23_join N r_17.1).bind fun r_67 => chk ((s_47 ++ (⟨#[32, 124, 32]⟩)).size + r_67.size ≤ maxLen) (m_r23_say_J3 r_17 names_41 ((s_47 ++ (⟨#[32, 124, 32]⟩)) ++ r_67)))) else (m_r23_say_J3 r_17 names_41 s_47)
def m_r23_say_J1 (N : Nat) (r_17 : ((List ByteArray) × (List ByteArray))) (e_33 : ByteArray) (asked_37 : List ByteArray) (names_41 : List ByteArray) : Option (ByteArray × (List ByteArray)) :=
  if (decide (0 < (asked_37.length : Int))) = true then (chk (e_33.size + (⟨#[32]⟩ : ByteArray).size ≤ maxLen) ((m_r23_join N asked_37).bind fun r_73 => chk ((e_33 ++ (⟨#[32]⟩)).size + r_73.size ≤ maxLen) (m_r23_say_J2 N r_17 names_41 ((e_33 ++ (⟨#[32]⟩)) ++ r_73)))) else (m_r23_say_J2 N r_17 names_41 e_33)
def m_r23_say (N : Nat) (p0_q : (Int × (List (ByteArray × ByteArray)) × (List (ByteArray × ByteArray)) × Int × (List ByteArray) × (Bool × Bool))) : Option (ByteArray × (List ByteArray)) :=
  (m_r23_words N p0_q.2.1).bind fun r_6 => (m_r23_words N p0_q.2.2.1).bind fun r_17 => (at? ([⟨#[]⟩, ⟨#[99, 104, 97, 110, 99, 101]⟩, ⟨#[97, 115, 107]⟩, ⟨#[97, 108, 108]⟩] : List ByteArray) p0_q.1).bind fun e_33 => if (decide (p0_q.1 = 3)) = true then ((at? p0_q.2.1 0).bind fun e_78 => m_r23_say_J1 N r_17 e_33 ([e_78.1] : List ByteArray) ([e_78.1] : List ByteArray)) else (m_r23_say_J1 N r_17 e_33 r_6.1 r_6.2)
theorem c_r23_say {N cap0_0 cap0_2 cap0_4 : Nat} {a0_0 a0_2 a0_4 : Option Addr} {col : Col} {w0 : World} {p0_q : (Int × (List (ByteArray × ByteArray)) × (List (ByteArray × ByteArray)) × Int × (List ByteArray) × (Bool × Bool))} {r : (ByteArray × (List ByteArray))} (c1 : Nat) (hm : m_r23_say N p0_q = some r) (h0_0 : Sl (Rep.pair Rep.str Rep.str) col w0 a0_0 cap0_0 p0_q.2.1) (h0_2 : Sl (Rep.pair Rep.str Rep.str) col w0 a0_2 cap0_2 p0_q.2.2.1) (h0_4 : Sl Rep.str col w0 a0_4 cap0_4 p0_q.2.2.2.2.1) :
    Calls Try.prog 11 #[(.agg #[(.int .i8 p0_q.1), (.slice a0_0 p0_q.2.1.length cap0_0), (.slice a0_2 p0_q.2.2.1.length cap0_2), (.int .i8 p0_q.2.2.2.1), (.slice a0_4 p0_q.2.2.2.2.1.length cap0_4), (.bool p0_q.2.2.2.2.2.1), (.bool p0_q.2.2.2.2.2.2)])] w0 (fun e w' => ∃ (col' : Col) (ra1 : Option Addr) (rc2 : Nat), e = .returned (.tuple #[(.string r.1), (.slice ra1 r.2.length rc2)]) ∧ Grow col w0 col' w' ∧ Own Rep.str 9 c1 col' w' ra1 rc2 r.2) := by
 refine calls_of2 2 3 (m := 62) (args := [(.agg #[(.int .i8 p0_q.1), (.slice a0_0 p0_q.2.1.length cap0_0), (.slice a0_2 p0_q.2.2.1.length cap0_2), (.int .i8 p0_q.2.2.2.1), (.slice a0_4 p0_q.2.2.2.2.1.length cap0_4), (.bool p0_q.2.2.2.2.2.1), (.bool p0_q.2.2.2.2.2.2)])]) Try.func11 rfl rfl rfl rfl rfl ?_;rw [m_r23_say.eq_1] at hm;have hst := St.start col w0;refine go ?_;refine l_boxA (col := (col0 col)) 1 rfl ?_;intro g_1 w_2 col_3 hg_4 hb_5;refine go ?_;refine lFLb hb_5 ?_;obtain ⟨r_6, hr_7, hm⟩ := bZ hm;replace h0_0 := h0_0.k0;replace hst := hst.grow hg_4;refine lcA (c_r23_words 2 3 hr_7 (h0_0.ks hst)) ?_;rintro _ w_14 ⟨col_16, ra_8, rc_9, ra_11, rc_12, rfl, hg_15, rh_10, rh_13⟩;refine ⟨_, rfl, ?_⟩;refine lM (.tuple #[(.slice ra_8 r_6.1.length rc_9), (.slice ra_11 r_6.2.length rc_12)]) <| lV (.slice ra_8 r_6.1.length rc_9) (r_extract rfl rfl) <| lV (.slice ra_11 r_6.2.length rc_12) (r_extract rfl rfl) <| go ?_;refine lFa ⟨_, _, rfl⟩ ?_;replace hb_5 := hb_5.gr hg_15;refine lW ((hb_5.atN).nth (q := 2) rfl) ?_;obtain ⟨r_17, hr_18, hm⟩ := bZ hm;replace h0_2 := h0_2.k0;replace hst := hst.grow hg_15;refine lcA (c_r23_words 4 5 hr_18 (h0_2.ks hst)) ?_;rintro _ w_25 ⟨col_27, ra_19, rc_20, ra_22, rc_23, rfl, hg_26, rh_21, rh_24⟩;refine ⟨_, rfl, ?_⟩;refine lM (.tuple #[(.slice ra_19 r_17.1.length rc_20), (.slice ra_22 r_17.2.length rc_23)]) <| lV (.slice ra_19 r_17.1.length rc_20) (r_extract rfl rfl) <| lV (.slice ra_22 r_17.2.length rc_23) (r_extract rfl rfl) <| go ?_;refine l_litS (col := col_27) ([⟨#[]⟩, ⟨#[99, 104, 97, 110, 99, 101]⟩, ⟨#[97, 115, 107]⟩, ⟨#[97, 108, 108]⟩] : List ByteArray) 6 ?_;intro a_28 w_29 col_30 hg_31 h_32;refine lFa ⟨_, _, rfl⟩ ?_;replace hb_5 := (hb_5.gr hg_26).gr hg_31;refine lW ((hb_5.atN).nth (q := 0) rfl) ?_;obtain ⟨e_33, hj_34, hm⟩ := bZ hm;refine lI hj_34 (h_32.addr hj_34) <| lW (h_32.atStr hj_34) <| lAT rfl <| lnil <| wseq ?_;replace rh_10 := (rh_10.gr hg_26).gr hg_31;replace rh_10 := (rh_10).toSlF Froz.str;replace rh_13 := (rh_13.gr hg_26).gr hg_31;replace rh_13 := rh_13.froz 2;replace rh_21 := rh_21.gr hg_31;replace rh_21 := rh_21.froz 2;replace rh_24 := rh_24.gr hg_31;replace rh_24 := rh_24.froz 2;replace hb_5 := hb_5.froz 2;replace hst := (hst.grow hg_26).grow hg_31;replace hst := hst.froz 2 (by decide) (by decide);replace rh_10 := rh_10.froz 3;replace rh_13 := (rh_13).toSlF Froz.str;replace rh_21 := rh_21.froz 3;replace rh_24 := rh_24.froz 3;replace hb_5 := hb_5.froz 3;replace hst := hst.froz 3 (by decide) (by decide)
 refine Wp.cutK [6, 7, 8, 1000000] (fun f w_35 => ∃ col_36 a_38 cap_39 asked_37 a_42 cap_43 names_41, m_r23_say_J1 N r_17 e_33 asked_37 names_41 = some r ∧ St w0 (col0 col) col_36 w_35 ∧ Sl Rep.str col_36 w_35 a_38 cap_39 asked_37 ∧ Sl Rep.str col_36 w_35 a_42 cap_43 names_41 ∧ Own Rep.str 9 4 col_36 w_35 ra_19 rc_20 r_17.1 ∧ Own Rep.str 9 5 col_36 w_35 ra_22 rc_23 r_17.2 ∧ [4, 5].map f = [.slice a_38 asked_37.length cap_39, .slice a_42 names_41.length cap_43]) ?_ ?_
 ·intro f w_35 hJ;obtain ⟨col_36, a_38, cap_39, asked_37, a_42, cap_43, names_41, hm, hst, h_40, h_44, rh_21, rh_24, hs⟩ := hJ;rw [m_r23_say_J1.eq_1] at hm;refine .lL [4, 5] hs <| wseq ?_;refine Wp.cutK [5, 6, 7, 1000000] (fun f w_45 => ∃ col_46 s_47, m_r23_say_J2 N r_17 names_41 s_47 = some r ∧ St w0 (col0 col) col_46 w_45 ∧ Sl Rep.str col_46 w_45 a_42 cap_43 names_41 ∧ Own Rep.str 9 4 col_46 w_45 ra_19 rc_20 r_17.1 ∧ Own Rep.str 9 5 col_46 w_45 ra_22 rc_23 r_17.2 ∧ [8].map f = [.string s_47]) ?_ ?_
  ·intro f w_45 hJ;obtain ⟨col_46, s_47, hm, hst, h_44, rh_21, rh_24, hs⟩ := hJ;rw [m_r23_say_J2.eq_1] at hm;refine .lL [8] hs <| wseq ?_;refine Wp.cutK [5, 7, 1000000] (fun f w_48 => ∃ col_49 s_50, m_r23_say_J3 r_17 names_41 s_50 = some r ∧ St w0 (col0 col) col_49 w_48 ∧ Sl Rep.str col_49 w_48 a_42 cap_43 names_41 ∧ Own Rep.str 9 5 col_49 w_48 ra_22 rc_23 r_17.2 ∧ [8].map f = [.string s_50]) ?_ ?_
   ·intro f w_48 hJ;obtain ⟨col_49, s_50, hm, hst, h_44, rh_24, hs⟩ := hJ;rw [m_r23_say_J3.eq_1] at hm;refine .lL [8] hs <| go ?_;obtain ⟨hb_51, hm⟩ := chk_some hm;refine l_appA (c := 7) Own.nil h_44.srcC hb_51 ?_;intro a_52 cap_53 w_54 col_55 hk_56 h_57;refine go ?_;obtain ⟨hb_58, hm⟩ := chk_some hm;replace rh_24 := rh_24.kpp hk_56;refine l_appA h_57 (rh_24.srcN NB.str) hb_58 ?_;intro a_59 cap_60 w_61 col_62 hk_63 h_64;refine go ?_;obtain ⟨hb_65, hm⟩ := chk_some hm;refine lV (.string (s_50 ++ (⟨#[59, 10]⟩))) (r_addS Try.underlying9 rfl rfl hb_65) <| go ?_;cases hm;replace hst := (hst.kpp hk_56).kpp hk_63;exact ⟨rfl, _, _, _, rfl, hst.fin (cm [(7, c1)]), hst.fo h_64⟩
   refine go ?_;refine wcb hm (fun hb hm => go ?_) fun hb hm => ?_
   ·obtain ⟨hb_66, hm⟩ := chk_some hm;refine lV (.string (s_47 ++ (⟨#[32, 124, 32]⟩))) (r_addS Try.underlying9 rfl rfl hb_66) <| lMS rfl ?_;obtain ⟨r_67, hr_68, hm⟩ := bZ hm;refine lcA (c_r23_join hr_68 (rh_21.toSlF Froz.str)) ?_;rintro _ w_69 ⟨rfl, hg_70⟩;refine ⟨_, rfl, ?_⟩;replace hg_70 : Grow col_46 w_45 col_46 w_69 := .of_below hg_70;obtain ⟨hb_71, hm⟩ := chk_some hm;refine lV (.string ((s_47 ++ (⟨#[32, 124, 32]⟩)) ++ r_67)) (r_addS Try.underlying9 rfl rfl hb_71) <| go ?_;replace h_44 := h_44.gr hg_70;replace rh_24 := rh_24.gr hg_70;replace hst := hst.grow hg_70;exact ⟨rfl, _, _, hm, hst, h_44, rh_24, rfl⟩
   refine wskip ?_;exact ⟨rfl, _, _, hm, hst, h_44, rh_24, rfl⟩
  refine go ?_;refine wcb hm (fun hb hm => go ?_) fun hb hm => ?_
  ·obtain ⟨hb_72, hm⟩ := chk_some hm;refine lV (.string (e_33 ++ (⟨#[32]⟩))) (r_addS Try.underlying9 rfl rfl hb_72) <| lMS rfl ?_;obtain ⟨r_73, hr_74, hm⟩ := bZ hm;refine lcA (c_r23_join hr_74 h_40) ?_;rintro _ w_75 ⟨rfl, hg_76⟩;refine ⟨_, rfl, ?_⟩;replace hg_76 : Grow col_36 w_35 col_36 w_75 := .of_below hg_76;obtain ⟨hb_77, hm⟩ := chk_some hm;refine lV (.string ((e_33 ++ (⟨#[32]⟩)) ++ r_73)) (r_addS Try.underlying9 rfl rfl hb_77) <| go ?_;replace h_44 := h_44.gr hg_76;replace rh_21 := rh_21.gr hg_76;replace rh_24 := rh_24.gr hg_76;replace hst := hst.grow hg_76;exact ⟨rfl, _, _, hm, hst, h_44, rh_21, rh_24, rfl⟩
  refine wskip ?_;exact ⟨rfl, _, _, hm, hst, h_44, rh_21, rh_24, rfl⟩
 refine go ?_;refine lFLb hb_5 ?_;refine go ?_;refine wcb hm (fun hb hm => go ?_) fun hb hm => ?_
 ·refine lFLb hb_5 ?_;obtain ⟨e_78, hj_79, hm⟩ := bZ hm;refine lI hj_79 ((h0_0.ks hst).addr hj_79) <| lFa (sptr_addr ((h0_0.ks hst).addr hj_79)) ?_;obtain ⟨_, hr_80, hA_81⟩ := (h0_0.ks hst).atN hj_79;obtain ⟨_, _, rfl, hp_82, hp_83⟩ := rd_pair hr_80;obtain ⟨rfl, _⟩ := hp_82;obtain ⟨rfl, _⟩ := hp_83;refine lW ((hA_81).nth (q := 0) rfl) <| l_litS (col := (frC 3 (frC 2 col_30))) ([e_78.1] : List ByteArray) 8 ?_;intro a_84 w_85 col_86 hg_87 h_88;refine go ?_;replace rh_21 := rh_21.gr hg_87;replace rh_21 := rh_21.froz 8;replace rh_24 := rh_24.gr hg_87;replace rh_24 := rh_24.froz 8;replace h_88 := (h_88).toSlF Froz.str;replace hst := hst.grow hg_87;replace hst := hst.froz 8 (by decide) (by decide);exact ⟨rfl, _, _, 1, _, _, 1, _, hm, hst, h_88, h_88, rh_21, rh_24, rfl⟩
 refine wskip ?_;exact ⟨rfl, _, _, _, _, _, _, _, hm, hst, rh_10, rh_13, rh_21, rh_24, rfl⟩
def m_r23_named_L1 (N : Nat) (p0_l : (List ByteArray)) : Nat → Int → Option Bool
  | 0, _ => none
  | n_1 + 1, i_4 => if (decide (i_4 < (p0_l.length : Int))) = true then ((at? p0_l i_4).bind fun e_5 => (m_r06_Name N e_5).bind fun r_7 => if (!r_7) = true then (some false) else ((m_r23_named_L1 N p0_l n_1) (IntKind.i64.wrap (i_4 + 1)))) else (some true)
termination_by structural x => x
def m_r23_named (N : Nat) (p0_l : (List ByteArray)) : Option Bool :=
  m_r23_named_L1 N p0_l N 0
theorem c_r23_named {N cap0 : Nat} {a0 : Option Addr} {col : Col} {w0 : World} {p0_l : (List ByteArray)} {r : Bool} (hm : m_r23_named N p0_l = some r) (h0 : Sl Rep.str col w0 a0 cap0 p0_l) :
    Calls Try.prog 12 #[(.slice a0 p0_l.length cap0)] w0 (fun e w' => e = .returned ((.bool r)) ∧ Below w0.heap.size w0 w') := by
 refine calls_of1 2 (m := 18) Try.func12 rfl rfl rfl rfl rfl ?_;rw [m_r23_named.eq_1] at hm;have hst := St.start col w0;refine go ?_;refine wloopK [0, 1000000] (fun n f w_2 => ∃ col_3 i_4 n_1, n_1 = n ∧ m_r23_named_L1 N p0_l n_1 i_4 = some r ∧ St w0 (col0 col) col_3 w_2 ∧ [3].map f = [.int .i64 i_4]) N ⟨_, 0, _, rfl, hm, hst, rfl⟩ ?_;clear hm; intro n f w_2 hI;obtain ⟨col_3, i_4, n_1, hn, hm, hst, hs⟩ := hI;subst hn;refine .lL [3] hs ?_;replace h0 := h0.k0
 cases n_1 with
 | zero => rw [m_r23_named_L1.eq_1] at hm; cases hm
 | succ n_1 =>
  rw [m_r23_named_L1.eq_2] at hm;refine go ?_;refine wcb hm (fun hb hm => go ?_) fun hb hm => go ?_
  ·obtain ⟨e_5, hj_6, hm⟩ := bZ hm;refine lI hj_6 ((h0.ks hst).addr hj_6) <| lW ((h0.ks hst).atStr hj_6) ?_;obtain ⟨r_7, hr_8, hm⟩ := bZ hm;refine lcA (c_r06_Name (col := col_3) hr_8) ?_;rintro _ w_9 ⟨rfl, hg_10⟩;refine ⟨_, rfl, ?_⟩;replace hg_10 : Grow col_3 w_2 col_3 w_9 := .of_below hg_10;refine go ?_;replace hst := hst.grow hg_10;refine wcb hm (fun hb hm => go ?_) fun hb hm => go ?_
   ·cases hm;exact ⟨rfl, rfl, hst.below⟩
   exact ⟨n_1, by omega, rfl, ⟨_, _, _, rfl, hm, hst, rfl⟩⟩
  cases hm;exact ⟨rfl, rfl, hst.below⟩
def m_r23_uses (N : Nat) (p0_q : (Int × (List (ByteArray × ByteArray)) × (List (ByteArray × ByteArray)) × Int × (List ByteArray) × (Bool × Bool))) : Option ByteArray :=
  if (decide (p0_q.2.2.2.1 = 1)) = true then (some (⟨#[117, 115, 101, 32, 102, 105, 108, 108, 59, 10]⟩)) else (if (decide (p0_q.2.2.2.1 = 2)) = true then (some (⟨#[117, 115, 101, 32, 100, 101, 103, 114, 101, 101, 59, 10]⟩)) else (if (decide (p0_q.2.2.2.1 = 3)) = true then ((m_r23_join N p0_q.2.2.2.2.1).bind fun r_6 => chk ((⟨#[117, 115, 101, 32, 111, 114, 100, 101, 114, 40]⟩ : ByteArray).size + r_6.size ≤ maxLen) (chk (((⟨#[117, 115, 101, 32, 111, 114, 100, 101, 114, 40]⟩ : ByteArray) ++ r_6).size + (⟨#[41, 59, 10]⟩ : ByteArray).size ≤ maxLen) (some (((⟨#[117, 115, 101, 32, 111, 114, 100, 101, 114, 40]⟩ : ByteArray) ++ r_6) ++ (⟨#[41, 59, 10]⟩))))) else (some (⟨#[]⟩))))
theorem c_r23_uses {N cap0_0 cap0_2 cap0_4 : Nat} {a0_0 a0_2 a0_4 : Option Addr} {col : Col} {w0 : World} {p0_q : (Int × (List (ByteArray × ByteArray)) × (List (ByteArray × ByteArray)) × Int × (List ByteArray) × (Bool × Bool))} {r : ByteArray} (hm : m_r23_uses N p0_q = some r) (h0_0 : Sl (Rep.pair Rep.str Rep.str) col w0 a0_0 cap0_0 p0_q.2.1) (h0_2 : Sl (Rep.pair Rep.str Rep.str) col w0 a0_2 cap0_2 p0_q.2.2.1) (h0_4 : Sl Rep.str col w0 a0_4 cap0_4 p0_q.2.2.2.2.1) :
    Calls Try.prog 10 #[(.agg #[(.int .i8 p0_q.1), (.slice a0_0 p0_q.2.1.length cap0_0), (.slice a0_2 p0_q.2.2.1.length cap0_2), (.int .i8 p0_q.2.2.2.1), (.slice a0_4 p0_q.2.2.2.2.1.length cap0_4), (.bool p0_q.2.2.2.2.2.1), (.bool p0_q.2.2.2.2.2.2)])] w0 (fun e w' => e = .returned ((.string r)) ∧ Below w0.heap.size w0 w') := by
 refine calls_of1 2 (m := 16) Try.func10 rfl rfl rfl rfl rfl ?_;rw [m_r23_uses.eq_1] at hm;have hst := St.start col w0;refine go ?_;refine l_boxA (col := (col0 col)) 1 rfl ?_;intro g_1 w_2 col_3 hg_4 hb_5;refine go ?_;refine lFLb hb_5 ?_;refine go ?_;replace h0_4 := h0_4.k0;replace hst := hst.grow hg_4;refine wcb hm (fun hb hm => go ?_) fun hb hm => go ?_
 ·cases hm;exact ⟨rfl, rfl, hst.below⟩
 refine wcb hm (fun hb hm => go ?_) fun hb hm => go ?_
 ·cases hm;exact ⟨rfl, rfl, hst.below⟩
 refine wcb hm (fun hb hm => go ?_) fun hb hm => go ?_
 ·refine lFLb hb_5 ?_;obtain ⟨r_6, hr_7, hm⟩ := bZ hm;refine lcA (c_r23_join hr_7 (h0_4.ks hst)) ?_;rintro _ w_8 ⟨rfl, hg_9⟩;refine ⟨_, rfl, ?_⟩;replace hg_9 : Grow col_3 w_2 col_3 w_8 := .of_below hg_9;obtain ⟨hb_10, hm⟩ := chk_some hm;refine lV (.string ((⟨#[117, 115, 101, 32, 111, 114, 100, 101, 114, 40]⟩ : ByteArray) ++ r_6)) (r_addS Try.underlying9 rfl rfl hb_10) ?_;obtain ⟨hb_11, hm⟩ := chk_some hm;refine lV (.string (((⟨#[117, 115, 101, 32, 111, 114, 100, 101, 114, 40]⟩ : ByteArray) ++ r_6) ++ (⟨#[41, 59, 10]⟩))) (r_addS Try.underlying9 rfl rfl hb_11) <| go ?_;cases hm;replace hst := hst.grow hg_9;exact ⟨rfl, rfl, hst.below⟩
 cases hm;exact ⟨rfl, rfl, hst.below⟩
theorem c_strings_Join (col : Col) (w0 : World) (a0 : Option Addr) (cap0 : Nat) (p0_elems : (List ByteArray)) (p1_sep : ByteArray) (h0 : Sl Rep.str col w0 a0 cap0 p0_elems) (r : ByteArray) (hm : m_join p0_elems p1_sep = some r) :
    Calls Try.prog 26 #[(.slice a0 p0_elems.length cap0), (.string p1_sep)] w0 (fun e w' => e = .returned ((.string r)) ∧ Below w0.heap.size w0 w') :=
  join_sl  col w0 a0 cap0 p0_elems p1_sep h0 r hm
def m_query_writer_name_J1 (p1_s : ByteArray) (w_3 : Bool) (w_4 : List Int) (w_8 : Int) (w_9 : Bool) : Option (ByteArray × ((Bool × (List Int)) × Int × Bool)) :=
  some (p1_s, ((w_3, w_4), w_8, w_9))
def m_query_writer_name (N : Nat) (p0_w : ((Bool × (List Int)) × Int × Bool)) (p1_s : ByteArray) : Option (ByteArray × ((Bool × (List Int)) × Int × Bool)) :=
  if p0_w.2.2 = true then (m_query_writer_name_J1 p1_s p0_w.1.1 p0_w.1.2 p0_w.2.1 true) else ((m_lex_Name N p1_s).bind fun r_15 => m_query_writer_name_J1 p1_s p0_w.1.1 p0_w.1.2 p0_w.2.1 (!r_15))
theorem c_query_writer_name {N g0 cap0_2 : Nat} {a0_2 : Option Addr} {col : Col} {w0 : World} {p0_w : ((Bool × (List Int)) × Int × Bool)} {p1_s : ByteArray} {r : (ByteArray × ((Bool × (List Int)) × Int × Bool))} (qc0 qc0_1 : Nat) (hm : m_query_writer_name N p0_w p1_s = some r) (hd : dstB [qc0, qc0_1] = true) (h0_2 : Own (Rep.int .u8) 5 qc0_1 col w0 a0_2 cap0_2 p0_w.1.2) (hb0 : Box 49 qc0 col w0 g0 #[(.pointer (bif p0_w.1.1 then some ⟨g0, 0, none⟩ else none)), (.slice a0_2 p0_w.1.2.length cap0_2), (.int .i64 p0_w.2.1), (.bool p0_w.2.2)]) :
    Calls Try.prog 18 #[(.pointer (some ⟨g0, 0, none⟩)), (.string p1_s)] w0 (fun e w' => ∃ (col' : Col) (oa1 : Option Addr) (oc2 : Nat), e = .returned ((.string r.1)) ∧ KeepP (pS [qc0, qc0_1]) col w0 col' w' ∧ Own (Rep.int .u8) 5 qc0_1 col' w' oa1 oc2 r.2.1.2 ∧ Box 49 qc0 col' w' g0 #[(.pointer (bif r.2.1.1 then some ⟨g0, 0, none⟩ else none)), (.slice oa1 r.2.1.2.length oc2), (.int .i64 r.2.2.1), (.bool r.2.2.2)]) := by
 refine calls_of1 4 (m := 18) Try.func18 rfl rfl rfl rfl rfl ?_;rw [m_query_writer_name.eq_1] at hm;have hst := St.startL (l := [qc0, qc0_1]) rfl col w0;replace hb0 := hb0.startL (dst_nz hd 0 rfl) (dst_ix hd 0 rfl);replace h0_2 := h0_2.startL (dst_nz hd 1 rfl) (dst_ix hd 1 rfl);refine wseq <| wregion <| lAT rfl <| lnil <| wseq ?_;refine Wp.cutK [1, 1000000] (fun f w_1 => ∃ col_2 w_3 a_5 cap_6 w_4 w_8 w_9, m_query_writer_name_J1 p1_s w_3 w_4 w_8 w_9 = some r ∧ St w0 (colL [qc0, qc0_1] col) col_2 w_1 ∧ Own (Rep.int .u8) 5 441 col_2 w_1 a_5 cap_6 w_4 ∧ Box 49 440 col_2 w_1 g0 #[(.pointer (bif w_3 then some ⟨g0, 0, none⟩ else none)), (.slice a_5 w_4.length cap_6), (.int .i64 w_8), (.bool w_9)]) ?_ ?_
 ·intro f w_1 hJ;obtain ⟨col_2, w_3, a_5, cap_6, w_4, w_8, w_9, hm, hst, h_7, hb0⟩ := hJ;rw [m_query_writer_name_J1.eq_1] at hm;refine go ?_;cases hm;exact ⟨rfl, colFL w0.heap.size [qc0, qc0_1] col col_2 (fun n => bif Nat.beq n 441 then qc0_1 else bif Nat.beq n 440 then qc0 else 0), a_5, cap_6, rfl, hst.finL rfl (fun n => bif Nat.beq n 441 then qc0_1 else bif Nat.beq n 440 then qc0 else 0), hst.finOwnL (g := (fun n => bif Nat.beq n 441 then qc0_1 else bif Nat.beq n 440 then qc0 else 0)) rfl h_7 (by decide) (by decide) rfl, hst.finBoxL (g := (fun n => bif Nat.beq n 441 then qc0_1 else bif Nat.beq n 440 then qc0 else 0)) hb0 (by decide) (by decide) rfl⟩
 refine go ?_;refine lV (.pointer (some ⟨g0, 0, none⟩)) (r_nilCheck rfl) <| lFLb hb0 <| lMB rfl ?_;refine bcb hm (fun hg_10 hm => go ?_) fun hg_10 hm => go ?_
 ·refine lV (.bool true) (r_pickT (congrArg Value.bool hg_10) rfl) <| lV (.pointer (some ⟨g0, 0, none⟩)) (r_nilCheck rfl) <| lFa ⟨_, _, rfl⟩ ?_;refine l_bstoreF (off := 3) (v := (.bool true)) hb0 Try.sizeOf4 rfl rfl (by intro u hu; simp only [Value.cells, List.mem_cons, List.not_mem_nil, or_false] at hu; subst hu; rfl) rfl rfl ?_;intro w_11 hk_12 hs_13 hb_14;replace hb_14 : Box 49 440 (colL [qc0, qc0_1] col) w_11 g0 #[(.pointer (bif p0_w.1.1 then some ⟨g0, 0, none⟩ else none)), (.slice a0_2 p0_w.1.2.length cap0_2), (.int .i64 p0_w.2.1), (.bool true)] := hb_14;refine lnil ?_;replace h0_2 := h0_2.kp hk_12;replace hst := hst.kp hk_12 hs_13;exact ⟨rfl, _, _, _, _, _, _, _, hm, hst, h0_2, hb_14⟩
 obtain ⟨r_15, hr_16, hm⟩ := bZ hm;refine lcA (c_lex_Name (col := (colL [qc0, qc0_1] col)) hr_16) ?_;rintro _ w_17 ⟨rfl, hg_18⟩;refine ⟨_, rfl, ?_⟩;replace hg_18 : Grow (colL [qc0, qc0_1] col) w0 (colL [qc0, qc0_1] col) w_17 := .of_below hg_18;refine go ?_;refine lV (.bool (!r_15)) (r_pickF (congrArg Value.bool hg_10) rfl) <| lV (.pointer (some ⟨g0, 0, none⟩)) (r_nilCheck rfl) <| lFa ⟨_, _, rfl⟩ ?_;replace hb0 := hb0.gr hg_18;refine l_bstoreF (off := 3) (v := (.bool (!r_15))) hb0 Try.sizeOf4 rfl rfl (by intro u hu; simp only [Value.cells, List.mem_cons, List.not_mem_nil, or_false] at hu; subst hu; rfl) rfl rfl ?_;intro w_19 hk_20 hs_21 hb_22;replace hb_22 : Box 49 440 (colL [qc0, qc0_1] col) w_19 g0 #[(.pointer (bif p0_w.1.1 then some ⟨g0, 0, none⟩ else none)), (.slice a0_2 p0_w.1.2.length cap0_2), (.int .i64 p0_w.2.1), (.bool (!r_15))] := hb_22;refine lnil ?_;replace h0_2 := (h0_2.gr hg_18).kp hk_20;replace hst := (hst.grow hg_18).kp hk_20 hs_21;exact ⟨rfl, _, _, _, _, _, _, _, hm, hst, h0_2, hb_22⟩
def m_query_writer_names_L1 (N : Nat) (p1_l : (List ByteArray)) : List ByteArray → Bool → (List Int) → Int → Bool → Option (ByteArray × ((Bool × (List Int)) × Int × Bool))
  | [], w_5, w_6, w_10, w_11 => (m_join p1_l (⟨#[44, 32]⟩)).bind fun r_14 => some (r_14, ((w_5, w_6), w_10, w_11))
  | x_12 :: l_13, w_5, w_6, w_10, w_11 => (m_query_writer_name N ((w_5, w_6), w_10, w_11) x_12).bind fun r_18 => (m_query_writer_names_L1 N p1_l l_13) r_18.2.1.1 r_18.2.1.2 r_18.2.2.1 r_18.2.2.2
termination_by structural x => x
def m_query_writer_names (N : Nat) (p0_w : ((Bool × (List Int)) × Int × Bool)) (p1_l : (List ByteArray)) : Option (ByteArray × ((Bool × (List Int)) × Int × Bool)) :=
  m_query_writer_names_L1 N p1_l p1_l p0_w.1.1 p0_w.1.2 p0_w.2.1 p0_w.2.2
theorem c_query_writer_names {N g0 cap0_2 cap1 : Nat} {a0_2 a1 : Option Addr} {col : Col} {w0 : World} {p0_w : ((Bool × (List Int)) × Int × Bool)} {p1_l : (List ByteArray)} {r : (ByteArray × ((Bool × (List Int)) × Int × Bool))} (qc0 qc0_1 : Nat) (hm : m_query_writer_names N p0_w p1_l = some r) (hd : dstB [qc0, qc0_1] = true) (h0_2 : Own (Rep.int .u8) 5 qc0_1 col w0 a0_2 cap0_2 p0_w.1.2) (hb0 : Box 49 qc0 col w0 g0 #[(.pointer (bif p0_w.1.1 then some ⟨g0, 0, none⟩ else none)), (.slice a0_2 p0_w.1.2.length cap0_2), (.int .i64 p0_w.2.1), (.bool p0_w.2.2)]) (h1 : Sl Rep.str col w0 a1 cap1 p1_l) :
    Calls Try.prog 24 #[(.pointer (some ⟨g0, 0, none⟩)), (.slice a1 p1_l.length cap1)] w0 (fun e w' => ∃ (col' : Col) (oa1 : Option Addr) (oc2 : Nat), e = .returned ((.string r.1)) ∧ KeepP (pS [qc0, qc0_1]) col w0 col' w' ∧ Own (Rep.int .u8) 5 qc0_1 col' w' oa1 oc2 r.2.1.2 ∧ Box 49 qc0 col' w' g0 #[(.pointer (bif r.2.1.1 then some ⟨g0, 0, none⟩ else none)), (.slice oa1 r.2.1.2.length oc2), (.int .i64 r.2.2.1), (.bool r.2.2.2)]) := by
 refine calls_of1 4 (m := 19) Try.func24 rfl rfl rfl rfl rfl ?_;rw [m_query_writer_names.eq_1] at hm;have hst := St.startL (l := [qc0, qc0_1]) rfl col w0;replace hb0 := hb0.startL (dst_nz hd 0 rfl) (dst_ix hd 0 rfl);replace h0_2 := h0_2.startL (dst_nz hd 1 rfl) (dst_ix hd 1 rfl);refine go ?_;refine wloopK [0, 1, 7, 8, 1000000] (fun n f w_3 => ∃ col_4 w_5 a_7 cap_8 w_6 w_10 w_11 k_1 l_2, n = l_2.length ∧ p1_l.drop k_1 = l_2 ∧ m_query_writer_names_L1 N p1_l l_2 w_5 w_6 w_10 w_11 = some r ∧ St w0 (colL [qc0, qc0_1] col) col_4 w_3 ∧ Own (Rep.int .u8) 5 441 col_4 w_3 a_7 cap_8 w_6 ∧ Box 49 440 col_4 w_3 g0 #[(.pointer (bif w_5 then some ⟨g0, 0, none⟩ else none)), (.slice a_7 w_6.length cap_8), (.int .i64 w_10), (.bool w_11)] ∧ [9].map f = [.int .i64 (k_1 : Int)]) p1_l.length ⟨_, _, _, _, _, _, _, 0, _, rfl, rfl, hm, hst, h0_2, hb0, rfl⟩ ?_;clear hm; intro n f w_3 hI;obtain ⟨col_4, w_5, a_7, cap_8, w_6, w_10, w_11, k_1, l_2, hn, hl, hm, hst, h_9, hb0, hs⟩ := hI;subst hn;refine .lL [9] hs ?_;replace h1 := h1.keep (Stay.startL [qc0, qc0_1] col w0)
 cases l_2 with
 | nil =>
  have hk : ¬ ((k_1 : Int) < (p1_l.length : Int)) := by have := List.drop_eq_nil_iff.1 hl; omega
  have hkb := decide_eq_false hk;rw [m_query_writer_names_L1.eq_1] at hm;refine go ?_;refine wcondF (congrArg Value.bool hkb) <| go ?_;obtain ⟨r_14, hr_15, hm⟩ := bZ hm;refine lcA (c_strings_Join col_4 _ a1 cap1 p1_l (⟨#[44, 32]⟩) (h1.ks hst) r_14 hr_15) ?_;rintro _ w_16 ⟨rfl, hg_17⟩;refine ⟨_, rfl, ?_⟩;replace hg_17 : Grow col_4 w_3 col_4 w_16 := .of_below hg_17;refine go ?_;cases hm;replace h_9 := h_9.gr hg_17;replace hb0 := hb0.gr hg_17;replace hst := hst.grow hg_17;exact ⟨rfl, colFL w0.heap.size [qc0, qc0_1] col col_4 (fun n => bif Nat.beq n 441 then qc0_1 else bif Nat.beq n 440 then qc0 else 0), a_7, cap_8, rfl, hst.finL rfl (fun n => bif Nat.beq n 441 then qc0_1 else bif Nat.beq n 440 then qc0 else 0), hst.finOwnL (g := (fun n => bif Nat.beq n 441 then qc0_1 else bif Nat.beq n 440 then qc0 else 0)) rfl h_9 (by decide) (by decide) rfl, hst.finBoxL (g := (fun n => bif Nat.beq n 441 then qc0_1 else bif Nat.beq n 440 then qc0 else 0)) hb0 (by decide) (by decide) rfl⟩
 | cons x_12 l_13 =>
  obtain ⟨hat, hl2_L1, hlt_L1⟩ := drop_get hl;have hk : (k_1 : Int) < (p1_l.length : Int) := by omega
  have hkb := decide_eq_true hk;rw [m_query_writer_names_L1.eq_2] at hm;refine go ?_;refine wcondT (congrArg Value.bool hkb) <| go ?_;refine lI hat ((h1.ks hst).addr hat) <| lW ((h1.ks hst).atStr hat) ?_;refine go ?_;obtain ⟨r_18, hr_19, hm⟩ := bZ hm;refine lcA (c_query_writer_name 440 441 hr_19 rfl h_9 hb0) ?_;rintro _ w_24 ⟨col_26, oa_20, oc_21, rfl, hg_25, oh_22, ohb_23⟩;refine ⟨_, rfl, go ?_⟩;replace hst := hst.kpp hg_25;exact ⟨l_13.length, by simp, rfl, ⟨_, _, _, _, _, _, _, _, _, rfl, hl2_L1, hm, hst, oh_22, ohb_23, (eqc (congrArg (Value.int .i64) (wrap_succ (Nat.lt_of_lt_of_le hlt_L1 (h1.ks hst).1.1))) rfl)⟩⟩
def m_query_writer_uses (N : Nat) (p0_w : ((Bool × (List Int)) × Int × Bool)) (p1_q : (Int × (List (ByteArray × ByteArray)) × (List (ByteArray × ByteArray)) × Int × (List ByteArray) × (Bool × Bool))) : Option (ByteArray × ((Bool × (List Int)) × Int × Bool)) :=
  if (decide (p1_q.2.2.2.1 = 1)) = true then (some (⟨#[117, 115, 101, 32, 102, 105, 108, 108]⟩, ((p0_w.1.1, p0_w.1.2), p0_w.2.1, p0_w.2.2))) else (if (decide (p1_q.2.2.2.1 = 2)) = true then (some (⟨#[117, 115, 101, 32, 100, 101, 103, 114, 101, 101]⟩, ((p0_w.1.1, p0_w.1.2), p0_w.2.1, p0_w.2.2))) else (if (decide (p1_q.2.2.2.1 = 3)) = true then ((m_query_writer_names N ((p0_w.1.1, p0_w.1.2), p0_w.2.1, p0_w.2.2) p1_q.2.2.2.2.1).bind fun r_6 => chk ((⟨#[117, 115, 101, 32, 111, 114, 100, 101, 114, 40]⟩ : ByteArray).size + r_6.1.size ≤ maxLen) (chk (((⟨#[117, 115, 101, 32, 111, 114, 100, 101, 114, 40]⟩ : ByteArray) ++ r_6.1).size + (⟨#[41]⟩ : ByteArray).size ≤ maxLen) (some (((⟨#[117, 115, 101, 32, 111, 114, 100, 101, 114, 40]⟩ : ByteArray) ++ r_6.1) ++ (⟨#[41]⟩), ((r_6.2.1.1, r_6.2.1.2), r_6.2.2.1, r_6.2.2.2))))) else (some (⟨#[]⟩, ((p0_w.1.1, p0_w.1.2), p0_w.2.1, true)))))
theorem c_query_writer_uses {N g0 cap0_2 cap1_0 cap1_2 cap1_4 : Nat} {a0_2 a1_0 a1_2 a1_4 : Option Addr} {col : Col} {w0 : World} {p0_w : ((Bool × (List Int)) × Int × Bool)} {p1_q : (Int × (List (ByteArray × ByteArray)) × (List (ByteArray × ByteArray)) × Int × (List ByteArray) × (Bool × Bool))} {r : (ByteArray × ((Bool × (List Int)) × Int × Bool))} (qc0 qc0_1 : Nat) (hm : m_query_writer_uses N p0_w p1_q = some r) (hd : dstB [qc0, qc0_1] = true) (h0_2 : Own (Rep.int .u8) 5 qc0_1 col w0 a0_2 cap0_2 p0_w.1.2) (hb0 : Box 49 qc0 col w0 g0 #[(.pointer (bif p0_w.1.1 then some ⟨g0, 0, none⟩ else none)), (.slice a0_2 p0_w.1.2.length cap0_2), (.int .i64 p0_w.2.1), (.bool p0_w.2.2)]) (h1_0 : Sl (Rep.pair Rep.str Rep.str) col w0 a1_0 cap1_0 p1_q.2.1) (h1_2 : Sl (Rep.pair Rep.str Rep.str) col w0 a1_2 cap1_2 p1_q.2.2.1) (h1_4 : Sl Rep.str col w0 a1_4 cap1_4 p1_q.2.2.2.2.1) :
    Calls Try.prog 15 #[(.pointer (some ⟨g0, 0, none⟩)), (.agg #[(.int .i8 p1_q.1), (.slice a1_0 p1_q.2.1.length cap1_0), (.slice a1_2 p1_q.2.2.1.length cap1_2), (.int .i8 p1_q.2.2.2.1), (.slice a1_4 p1_q.2.2.2.2.1.length cap1_4), (.bool p1_q.2.2.2.2.2.1), (.bool p1_q.2.2.2.2.2.2)])] w0 (fun e w' => ∃ (col' : Col) (oa1 : Option Addr) (oc2 : Nat), e = .returned ((.string r.1)) ∧ KeepP (pS [qc0, qc0_1]) col w0 col' w' ∧ Own (Rep.int .u8) 5 qc0_1 col' w' oa1 oc2 r.2.1.2 ∧ Box 49 qc0 col' w' g0 #[(.pointer (bif r.2.1.1 then some ⟨g0, 0, none⟩ else none)), (.slice oa1 r.2.1.2.length oc2), (.int .i64 r.2.2.1), (.bool r.2.2.2)]) := by
 refine calls_of1 4 (m := 22) Try.func15 rfl rfl rfl rfl rfl ?_;rw [m_query_writer_uses.eq_1] at hm;have hst := St.startL (l := [qc0, qc0_1]) rfl col w0;replace hb0 := hb0.startL (dst_nz hd 0 rfl) (dst_ix hd 0 rfl);replace h0_2 := h0_2.startL (dst_nz hd 1 rfl) (dst_ix hd 1 rfl);refine go ?_;refine l_boxA (col := (colL [qc0, qc0_1] col)) 1 rfl ?_;intro g_1 w_2 col_3 hg_4 hb_5;refine go ?_;refine lFLb hb_5 ?_;refine go ?_;replace h1_4 := h1_4.keep (Stay.startL [qc0, qc0_1] col w0);replace h0_2 := h0_2.gr hg_4;replace hb0 := hb0.gr hg_4;replace hst := hst.grow hg_4;refine wcb hm (fun hb hm => go ?_) fun hb hm => go ?_
 ·cases hm;exact ⟨rfl, colFL w0.heap.size [qc0, qc0_1] col col_3 (fun n => bif Nat.beq n 441 then qc0_1 else bif Nat.beq n 440 then qc0 else 0), a0_2, cap0_2, rfl, hst.finL rfl (fun n => bif Nat.beq n 441 then qc0_1 else bif Nat.beq n 440 then qc0 else 0), hst.finOwnL (g := (fun n => bif Nat.beq n 441 then qc0_1 else bif Nat.beq n 440 then qc0 else 0)) rfl h0_2 (by decide) (by decide) rfl, hst.finBoxL (g := (fun n => bif Nat.beq n 441 then qc0_1 else bif Nat.beq n 440 then qc0 else 0)) hb0 (by decide) (by decide) rfl⟩
 refine wcb hm (fun hb hm => go ?_) fun hb hm => go ?_
 ·cases hm;exact ⟨rfl, colFL w0.heap.size [qc0, qc0_1] col col_3 (fun n => bif Nat.beq n 441 then qc0_1 else bif Nat.beq n 440 then qc0 else 0), a0_2, cap0_2, rfl, hst.finL rfl (fun n => bif Nat.beq n 441 then qc0_1 else bif Nat.beq n 440 then qc0 else 0), hst.finOwnL (g := (fun n => bif Nat.beq n 441 then qc0_1 else bif Nat.beq n 440 then qc0 else 0)) rfl h0_2 (by decide) (by decide) rfl, hst.finBoxL (g := (fun n => bif Nat.beq n 441 then qc0_1 else bif Nat.beq n 440 then qc0 else 0)) hb0 (by decide) (by decide) rfl⟩
 refine wcb hm (fun hb hm => go ?_) fun hb hm => go ?_
 ·refine lFLb hb_5 ?_;obtain ⟨r_6, hr_7, hm⟩ := bZ hm;refine lcA (c_query_writer_names 440 441 hr_7 rfl h0_2 hb0 (h1_4.ks hst)) ?_;rintro _ w_12 ⟨col_14, oa_8, oc_9, rfl, hg_13, oh_10, ohb_11⟩;refine ⟨_, rfl, ?_⟩;obtain ⟨hb_15, hm⟩ := chk_some hm;refine lV (.string ((⟨#[117, 115, 101, 32, 111, 114, 100, 101, 114, 40]⟩ : ByteArray) ++ r_6.1)) (r_addS Try.underlying9 rfl rfl hb_15) ?_;obtain ⟨hb_16, hm⟩ := chk_some hm;refine lV (.string (((⟨#[117, 115, 101, 32, 111, 114, 100, 101, 114, 40]⟩ : ByteArray) ++ r_6.1) ++ (⟨#[41]⟩))) (r_addS Try.underlying9 rfl rfl hb_16) <| go ?_;cases hm;replace hst := hst.kpp hg_13;exact ⟨rfl, colFL w0.heap.size [qc0, qc0_1] col col_14 (fun n => bif Nat.beq n 441 then qc0_1 else bif Nat.beq n 440 then qc0 else 0), oa_8, oc_9, rfl, hst.finL rfl (fun n => bif Nat.beq n 441 then qc0_1 else bif Nat.beq n 440 then qc0 else 0), hst.finOwnL (g := (fun n => bif Nat.beq n 441 then qc0_1 else bif Nat.beq n 440 then qc0 else 0)) rfl oh_10 (by decide) (by decide) rfl, hst.finBoxL (g := (fun n => bif Nat.beq n 441 then qc0_1 else bif Nat.beq n 440 then qc0 else 0)) ohb_11 (by decide) (by decide) rfl⟩
 refine lV (.pointer (some ⟨g0, 0, none⟩)) (r_nilCheck rfl) <| lFa ⟨_, _, rfl⟩ ?_;refine l_bstoreF (off := 3) (v := (.bool true)) hb0 Try.sizeOf4 rfl rfl (by intro u hu; simp only [Value.cells, List.mem_cons, List.not_mem_nil, or_false] at hu; subst hu; rfl) rfl rfl ?_;intro w_17 hk_18 hs_19 hb_20;replace hb_20 : Box 49 440 col_3 w_17 g0 #[(.pointer (bif p0_w.1.1 then some ⟨g0, 0, none⟩ else none)), (.slice a0_2 p0_w.1.2.length cap0_2), (.int .i64 p0_w.2.1), (.bool true)] := hb_20;refine go ?_;cases hm;replace h0_2 := h0_2.kp hk_18;replace hst := hst.kp hk_18 hs_19;exact ⟨rfl, colFL w0.heap.size [qc0, qc0_1] col col_3 (fun n => bif Nat.beq n 441 then qc0_1 else bif Nat.beq n 440 then qc0 else 0), a0_2, cap0_2, rfl, hst.finL rfl (fun n => bif Nat.beq n 441 then qc0_1 else bif Nat.beq n 440 then qc0 else 0), hst.finOwnL (g := (fun n => bif Nat.beq n 441 then qc0_1 else bif Nat.beq n 440 then qc0 else 0)) rfl h0_2 (by decide) (by decide) rfl, hst.finBoxL (g := (fun n => bif Nat.beq n 441 then qc0_1 else bif Nat.beq n 440 then qc0 else 0)) hb_20 (by decide) (by decide) rfl⟩
theorem el9_17 : ElemOk Try.prog 9 1 16 := ⟨Try.t9, _, rfl, rfl, rfl, rfl, rfl⟩
def m_query_writer_pairs_L1 (N : Nat) (p1_head : ByteArray) : List (ByteArray × ByteArray) → Bool → (List Int) → Int → Bool → (List ByteArray) → Option (ByteArray × ((Bool × (List Int)) × Int × Bool))
  | [], w_5, w_6, w_10, w_11, parts_12 => if (decide ((parts_12.length : Int) = 0)) = true then (some (⟨#[]⟩, ((w_5, w_6), w_10, w_11))) else ((m_join parts_12 (⟨#[44, 32]⟩)).bind fun r_18 => chk (p1_head.size + r_18.size ≤ maxLen) (some (p1_head ++ r_18, ((w_5, w_6), w_10, w_11))))
  | x_16 :: l_17, w_5, w_6, w_10, w_11, parts_12 => (m_query_writer_name N ((w_5, w_6), w_10, w_11) x_16.1).bind fun r_38 => chk (r_38.1.size + (⟨#[61]⟩ : ByteArray).size ≤ maxLen) ((m_query_writer_name N ((r_38.2.1.1, r_38.2.1.2), r_38.2.2.1, r_38.2.2.2) x_16.2).bind fun r_49 => chk ((r_38.1 ++ (⟨#[61]⟩)).size + r_49.1.size ≤ maxLen) (chk ((parts_12.length + ([(r_38.1 ++ (⟨#[61]⟩)) ++ r_49.1] : List ByteArray).length) * 16 ≤ 140737488355328 ∧ parts_12.length + ([(r_38.1 ++ (⟨#[61]⟩)) ++ r_49.1] : List ByteArray).length ≤ maxLen) ((m_query_writer_pairs_L1 N p1_head l_17) r_49.2.1.1 r_49.2.1.2 r_49.2.2.1 r_49.2.2.2 (parts_12 ++ ([(r_38.1 ++ (⟨#[61]⟩)) ++ r_49.1] : List ByteArray)))))
termination_by structural x => x
def m_query_writer_pairs (N : Nat) (p0_w : ((Bool × (List Int)) × Int × Bool)) (p1_head : ByteArray) (p2_l : (List (ByteArray × ByteArray))) : Option (ByteArray × ((Bool × (List Int)) × Int × Bool)) :=
  m_query_writer_pairs_L1 N p1_head p2_l p0_w.1.1 p0_w.1.2 p0_w.2.1 p0_w.2.2 ([] : List ByteArray)
theorem c_query_writer_pairs {N g0 cap0_2 cap2 : Nat} {a0_2 a2 : Option Addr} {col : Col} {w0 : World} {p0_w : ((Bool × (List Int)) × Int × Bool)} {p1_head : ByteArray} {p2_l : (List (ByteArray × ByteArray))} {r : (ByteArray × ((Bool × (List Int)) × Int × Bool))} (qc0 qc0_1 : Nat) (hm : m_query_writer_pairs N p0_w p1_head p2_l = some r) (hd : dstB [qc0, qc0_1] = true) (h0_2 : Own (Rep.int .u8) 5 qc0_1 col w0 a0_2 cap0_2 p0_w.1.2) (hb0 : Box 49 qc0 col w0 g0 #[(.pointer (bif p0_w.1.1 then some ⟨g0, 0, none⟩ else none)), (.slice a0_2 p0_w.1.2.length cap0_2), (.int .i64 p0_w.2.1), (.bool p0_w.2.2)]) (h2 : Sl (Rep.pair Rep.str Rep.str) col w0 a2 cap2 p2_l) :
    Calls Try.prog 17 #[(.pointer (some ⟨g0, 0, none⟩)), (.string p1_head), (.slice a2 p2_l.length cap2)] w0 (fun e w' => ∃ (col' : Col) (oa1 : Option Addr) (oc2 : Nat), e = .returned ((.string r.1)) ∧ KeepP (pS [qc0, qc0_1]) col w0 col' w' ∧ Own (Rep.int .u8) 5 qc0_1 col' w' oa1 oc2 r.2.1.2 ∧ Box 49 qc0 col' w' g0 #[(.pointer (bif r.2.1.1 then some ⟨g0, 0, none⟩ else none)), (.slice oa1 r.2.1.2.length oc2), (.int .i64 r.2.2.1), (.bool r.2.2.2)]) := by
 refine calls_of1 6 (m := 37) Try.func17 rfl rfl rfl rfl rfl ?_;rw [m_query_writer_pairs.eq_1] at hm;have hst := St.startL (l := [qc0, qc0_1]) rfl col w0;replace hb0 := hb0.startL (dst_nz hd 0 rfl) (dst_ix hd 0 rfl);replace h0_2 := h0_2.startL (dst_nz hd 1 rfl) (dst_ix hd 1 rfl);refine go ?_;refine wloopK [0, 1, 10, 11, 1000000] (fun n f w_3 => ∃ col_4 w_5 a_7 cap_8 w_6 w_10 w_11 k_1 a_13 cap_14 parts_12 l_2, n = l_2.length ∧ p2_l.drop k_1 = l_2 ∧ m_query_writer_pairs_L1 N p1_head l_2 w_5 w_6 w_10 w_11 parts_12 = some r ∧ St w0 (colL [qc0, qc0_1] col) col_4 w_3 ∧ Own (Rep.int .u8) 5 441 col_4 w_3 a_7 cap_8 w_6 ∧ Box 49 440 col_4 w_3 g0 #[(.pointer (bif w_5 then some ⟨g0, 0, none⟩ else none)), (.slice a_7 w_6.length cap_8), (.int .i64 w_10), (.bool w_11)] ∧ Own Rep.str 9 1 col_4 w_3 a_13 cap_14 parts_12 ∧ [12, 7].map f = [.int .i64 (k_1 : Int), .slice a_13 parts_12.length cap_14]) p2_l.length ⟨_, _, _, _, _, _, _, 0, none, 0, _, _, rfl, rfl, hm, hst, h0_2, hb0, Own.nil, rfl⟩ ?_;clear hm; intro n f w_3 hI;obtain ⟨col_4, w_5, a_7, cap_8, w_6, w_10, w_11, k_1, a_13, cap_14, parts_12, l_2, hn, hl, hm, hst, h_9, hb0, h_15, hs⟩ := hI;subst hn;refine .lL [12, 7] hs ?_;replace h2 := h2.keep (Stay.startL [qc0, qc0_1] col w0)
 cases l_2 with
 | nil =>
  have hk : ¬ ((k_1 : Int) < (p2_l.length : Int)) := by have := List.drop_eq_nil_iff.1 hl; omega
  have hkb := decide_eq_false hk;rw [m_query_writer_pairs_L1.eq_1] at hm;refine go ?_;refine wcondF (congrArg Value.bool hkb) <| go ?_;refine wcb hm (fun hb hm => go ?_) fun hb hm => go ?_
  ·cases hm;exact ⟨rfl, colFL w0.heap.size [qc0, qc0_1] col col_4 (fun n => bif Nat.beq n 441 then qc0_1 else bif Nat.beq n 440 then qc0 else 0), a_7, cap_8, rfl, hst.finL rfl (fun n => bif Nat.beq n 441 then qc0_1 else bif Nat.beq n 440 then qc0 else 0), hst.finOwnL (g := (fun n => bif Nat.beq n 441 then qc0_1 else bif Nat.beq n 440 then qc0 else 0)) rfl h_9 (by decide) (by decide) rfl, hst.finBoxL (g := (fun n => bif Nat.beq n 441 then qc0_1 else bif Nat.beq n 440 then qc0 else 0)) hb0 (by decide) (by decide) rfl⟩
  obtain ⟨r_18, hr_19, hm⟩ := bZ hm;refine lcA (c_strings_Join (frC 1 col_4) _ a_13 cap_14 parts_12 (⟨#[44, 32]⟩) (h_15.toSlF Froz.str) r_18 hr_19) ?_;rintro _ w_20 ⟨rfl, hg_21⟩;refine ⟨_, rfl, ?_⟩;replace hg_21 : Grow col_4 w_3 col_4 w_20 := .of_below hg_21;obtain ⟨hb_22, hm⟩ := chk_some hm;refine lV (.string (p1_head ++ r_18)) (r_addS Try.underlying9 rfl rfl hb_22) <| go ?_;cases hm;replace h_9 := h_9.gr hg_21;replace hb0 := hb0.gr hg_21;replace hst := hst.grow hg_21;exact ⟨rfl, colFL w0.heap.size [qc0, qc0_1] col col_4 (fun n => bif Nat.beq n 441 then qc0_1 else bif Nat.beq n 440 then qc0 else 0), a_7, cap_8, rfl, hst.finL rfl (fun n => bif Nat.beq n 441 then qc0_1 else bif Nat.beq n 440 then qc0 else 0), hst.finOwnL (g := (fun n => bif Nat.beq n 441 then qc0_1 else bif Nat.beq n 440 then qc0 else 0)) rfl h_9 (by decide) (by decide) rfl, hst.finBoxL (g := (fun n => bif Nat.beq n 441 then qc0_1 else bif Nat.beq n 440 then qc0 else 0)) hb0 (by decide) (by decide) rfl⟩
 | cons x_16 l_17 =>
  obtain ⟨hat, hl2_L1, hlt_L1⟩ := drop_get hl;have hk : (k_1 : Int) < (p2_l.length : Int) := by omega
  have hkb := decide_eq_true hk;rw [m_query_writer_pairs_L1.eq_2] at hm;refine go ?_;refine wcondT (congrArg Value.bool hkb) <| go ?_;refine lI hat ((h2.ks hst).addr hat) ?_;obtain ⟨_, hr_23, hA_24⟩ := (h2.ks hst).atN hat;obtain ⟨_, _, rfl, hp_25, hp_26⟩ := rd_pair hr_23;obtain ⟨rfl, _⟩ := hp_25;obtain ⟨rfl, _⟩ := hp_26;refine lV (.agg #[(.string x_16.1), (.string x_16.2)]) (r_ldN Try.isAgg36 Try.sizeOf36 rfl rfl hA_24) <| l_allocA (col := col_4) #[(.string (⟨#[]⟩)), (.string (⟨#[]⟩))] 2 Try.zeroValue36 ?_;intro g_27 w_28 col_29 hg_30 hb_31;refine l_bsA hb_31 ?_;intro w_32 hk_33 hs_34 hb_35;refine lnil <| wmixD (col := col_29) (pS [440, 441]) [(0, 1), (1, 1), (2, 1), (3, 0), (6, 1), (7, 1), (8, 5), (4, 4), (5, 1), (9, 2), (10, 1), (11, 3), (12, 2), (13, 1)] (by kernel_rfl) (by kernel_rfl) <| xuD (v := (.slice a_13 parts_12.length cap_14)) rfl rfl (fun _ => r_move rfl) ?_;refine xuD (v := (.pointer (some ⟨g0, 0, none⟩))) rfl rfl (fun _ => r_move rfl) ?_;refine xuD (v := (.pointer ((some (⟨g_27, 0, none⟩ : Addr)).map (·.add 0)))) rfl rfl (fun _ => r_fieldAddr (sz := 1) (off := 0) Try.underlying36 rfl Try.sizeOf9 (by decide) rfl rfl ⟨_, _, rfl⟩) ?_;refine xvD (v := (.string x_16.1)) rfl rfl (fun _ hC => r_ld Try.isAgg9 rfl (((hb_35.atN).nth (q := 0) (v := (.string x_16.1)) rfl).gr (hC.bl col_29))) ?_;refine xuD (v := (.pointer (some ⟨g0, 0, none⟩))) rfl rfl (fun _ => r_move rfl) ?_;refine xuD (v := (.pointer ((some (⟨g_27, 0, none⟩ : Addr)).map (·.add 1)))) rfl rfl (fun _ => r_fieldAddr (sz := 1) (off := 1) Try.underlying36 rfl Try.sizeOf9 (by decide) rfl rfl ⟨_, _, rfl⟩) ?_;refine xsD (v := (.string x_16.2)) rfl rfl (fun _ hC => r_ld Try.isAgg9 rfl (((hb_35.dk hC rfl rfl).atN).nth (q := 1) (v := (.string x_16.2)) rfl)) ?_;refine xeD rfl rfl ?_;intro w_36 hC0;have hC := hC0.bl col_29;replace h_9 := ((h_9.gr hg_30).kp hk_33).gr hC;replace h_15 := ((h_15.gr hg_30).kp hk_33).gr hC;replace hb0 := ((hb0.gr hg_30).kp hk_33).gr hC;replace hst := ((hst.grow hg_30).kp hk_33 hs_34).grow hC;have hkd_37 : KeepP (pS [440, 441]) col_29 w_32 col_29 w_36 := hC.toP;obtain ⟨r_38, hr_39, hm⟩ := bZ hm;refine lcA (c_query_writer_name 440 441 hr_39 rfl h_9 hb0) ?_;rintro _ w_44 ⟨col_46, oa_40, oc_41, rfl, hg_45, oh_42, ohb_43⟩;refine ⟨_, rfl, ?_⟩;replace h_15 := h_15.kpp hg_45;replace hkd_37 := hkd_37.trans (hg_45.mono (by first | exact pS_p2 rfl | exact pS_p1 rfl | exact pS_pS rfl));refine lnil ?_;refine ⟨fun w' => Grow col_46 w_44 col_46 w', fun w' => ∃ c', KeepP (pS [440, 441]) col_46 w_44 c' w', Grow.refl _ _, fun _ h => ⟨_, h.toP⟩, fun h => absurd h (by decide), fun _ _ ⟨c9, h⟩ => ⟨c9, hkd_37.trans h⟩, ?_⟩;obtain ⟨hb_47, hm⟩ := chk_some hm;refine xuD (v := (.string (r_38.1 ++ (⟨#[61]⟩)))) rfl rfl (fun _ => r_addS Try.underlying9 rfl rfl hb_47) ?_;refine xeD rfl rfl ?_;intro w_48 hC0;have hC := hC0.bl col_46;obtain ⟨r_49, hr_50, hm⟩ := bZ hm;replace oh_42 := oh_42.gr hC
  replace ohb_43 := ohb_43.gr hC;refine lcA (c_query_writer_name 440 441 hr_50 rfl oh_42 ohb_43) ?_;rintro _ w_55 ⟨col_57, oa_51, oc_52, rfl, hg_56, oh_53, ohb_54⟩;refine ⟨_, rfl, ?_⟩;refine lnil ?_;refine ⟨fun w' => Grow col_57 w_55 col_57 w', fun w' => ∃ c', KeepP (pS [440, 441]) col_57 w_55 c' w', Grow.refl _ _, fun _ h => ⟨_, h.toP⟩, fun h => absurd h (by decide), fun h => absurd h (by decide), ?_⟩;obtain ⟨hb_58, hm⟩ := chk_some hm;refine xuD (v := (.string ((r_38.1 ++ (⟨#[61]⟩)) ++ r_49.1))) rfl rfl (fun _ => r_addS Try.underlying9 rfl rfl hb_58) ?_;refine xeD rfl rfl ?_;intro w_59 hC0;replace hst := ((hst.kpp hg_45).grow hC).kpp hg_56;replace h_15 := (h_15.gr hC).kpp hg_56;have hC := hC0.bl col_57;replace oh_53 := oh_53.gr hC;replace h_15 := h_15.gr hC;replace ohb_54 := ohb_54.gr hC;replace hst := hst.grow hC;have hkd_60 : KeepP (pS [440, 441]) col_57 w_55 col_57 w_59 := hC.toP;refine l_litS (col := col_57) ([(r_38.1 ++ (⟨#[61]⟩)) ++ r_49.1] : List ByteArray) 3 ?_;intro a_61 w_62 col_63 hg_64 h_65;replace hkd_60 := hkd_60.gr hg_64;refine lnil ?_;refine ⟨fun w' => Grow col_63 w_62 col_63 w', fun w' => ∃ c', KeepP (pS [440, 441]) col_63 w_62 c' w', Grow.refl _ _, fun _ h => ⟨_, h.toP⟩, fun _ _ h => cls hC0 hg_64 h, fun _ _ ⟨c9, h⟩ => ⟨c9, hkd_60.trans h⟩, ?_⟩;refine xeD rfl rfl ?_;intro w_66 hC0;have hC := hC0.bl col_63;obtain ⟨hb_67, hm⟩ := chk_some hm;replace h_15 := (h_15.gr hg_64).gr hC;replace h_65 := h_65.gr hC;refine l_ext (col := col_63) (w := w_66) (r := Rep.str) (c := 1) (c2 := 1) (h_15.ex) (h_65.srcN NB.str) rfl Try.underlying29 el9_17 rfl rfl rfl hb_67.1 hb_67.2 (by decide) ?_;intro a_68 cap_69 w_70 col_71 hk_72 h_73;refine lnil ?_;refine ⟨fun w' => Grow col_71 w_70 col_71 w', fun w' => ∃ c', KeepP (pS [440, 441]) col_71 w_70 c' w', Grow.refl _ _, fun _ h => ⟨_, h.toP⟩, fun h => absurd h (by decide), fun h => absurd h (by decide), ?_⟩;refine xuD (v := (.slice a_68 ((parts_12 ++ ([(r_38.1 ++ (⟨#[61]⟩)) ++ r_49.1] : List ByteArray)).length) cap_69)) rfl rfl (fun _ => r_assign rfl) ?_;have h_74 := h_73.new;refine xnilD ?_;replace oh_53 := ((oh_53.gr hg_64).gr hC).kpp hk_72;replace ohb_54 := ((ohb_54.gr hg_64).gr hC).kpp hk_72;replace hst := ((hst.grow hg_64).grow hC).kpp hk_72;intro w_75 hC;replace hC := hC.bl col_71;refine go ?_;replace oh_53 := oh_53.gr hC;replace h_74 := h_74.gr hC;replace ohb_54 := ohb_54.gr hC;replace hst := hst.grow hC;exact ⟨l_17.length, by simp, rfl, ⟨_, _, _, _, _, _, _, _, _, _, _, _, rfl, hl2_L1, hm, hst, oh_53, ohb_54, h_74, (eqc (congrArg (Value.int .i64) (wrap_succ (Nat.lt_of_lt_of_le hlt_L1 (h2.ks hst).1.1))) rfl)⟩⟩
theorem c_strings_Builder_copyCheck_v0e49 (col : Col) (w0 : World) (qc0 : Nat) (qc0_1 : Nat) (hd : dstB [qc0, qc0_1] = true) (g0 : Nat) (p0_b : ((Bool × (List Int)) × Int × Bool)) (a0_2 : Option Addr) (cap0_2 : Nat) (h0_2 : Own (Rep.int .u8) 5 qc0_1 col w0 a0_2 cap0_2 p0_b.1.2) (hb0 : Box 49 qc0 col w0 g0 #[(.pointer (bif p0_b.1.1 then some ⟨g0, 0, none⟩ else none)), (.slice a0_2 p0_b.1.2.length cap0_2), (.int .i64 p0_b.2.1), (.bool p0_b.2.2)]) (r : ((Bool × (List Int)) × Int × Bool)) (hm : m_bcc p0_b = some r) :
    Calls Try.prog 31 #[(.pointer (some ⟨g0, 0, none⟩))] w0 (fun e w' => ∃ (col' : Col) (oa1 : Option Addr) (oc2 : Nat), e = .returned (.tuple #[]) ∧ KeepP (pS [qc0, qc0_1]) col w0 col' w' ∧ Own (Rep.int .u8) 5 qc0_1 col' w' oa1 oc2 r.1.2 ∧ Box 49 qc0 col' w' g0 #[(.pointer (bif r.1.1 then some ⟨g0, 0, none⟩ else none)), (.slice oa1 r.1.2.length oc2), (.int .i64 r.2.1), (.bool r.2.2)]) :=
  bcc_emb  col w0 qc0 qc0_1 hd g0 p0_b a0_2 cap0_2 h0_2 hb0 r hm
def m_strings_Builder_WriteString_v0e49 (p0_b : ((Bool × (List Int)) × Int × Bool)) (p1_s : ByteArray) : Option (Int × Unit × ((Bool × (List Int)) × Int × Bool)) :=
  (m_bcc ((p0_b.1.1, p0_b.1.2), p0_b.2.1, p0_b.2.2)).bind fun r_1 => chk (r_1.1.2.length + p1_s.size ≤ 140737488355328) (some ((p1_s.size : Int), (), ((r_1.1.1, r_1.1.2 ++ sints p1_s), r_1.2.1, r_1.2.2)))
theorem c_strings_Builder_WriteString_v0e49 {g0 cap0_2 : Nat} {a0_2 : Option Addr} {col : Col} {w0 : World} {p0_b : ((Bool × (List Int)) × Int × Bool)} {p1_s : ByteArray} {r : (Int × Unit × ((Bool × (List Int)) × Int × Bool))} (qc0 qc0_1 : Nat) (hm : m_strings_Builder_WriteString_v0e49 p0_b p1_s = some r) (hd : dstB [qc0, qc0_1] = true) (h0_2 : Own (Rep.int .u8) 5 qc0_1 col w0 a0_2 cap0_2 p0_b.1.2) (hb0 : Box 49 qc0 col w0 g0 #[(.pointer (bif p0_b.1.1 then some ⟨g0, 0, none⟩ else none)), (.slice a0_2 p0_b.1.2.length cap0_2), (.int .i64 p0_b.2.1), (.bool p0_b.2.2)]) :
    Calls Try.prog 25 #[(.pointer (some ⟨g0, 0, none⟩)), (.string p1_s)] w0 (fun e w' => ∃ (col' : Col) (oa1 : Option Addr) (oc2 : Nat), e = .returned (.tuple #[(.int .i64 r.1), .nilIface]) ∧ KeepP (pS [qc0, qc0_1]) col w0 col' w' ∧ Own (Rep.int .u8) 5 qc0_1 col' w' oa1 oc2 r.2.2.1.2 ∧ Box 49 qc0 col' w' g0 #[(.pointer (bif r.2.2.1.1 then some ⟨g0, 0, none⟩ else none)), (.slice oa1 r.2.2.1.2.length oc2), (.int .i64 r.2.2.2.1), (.bool r.2.2.2.2)]) := by
 refine calls_of2 4 5 (m := 19) (args := [(.pointer (some ⟨g0, 0, none⟩)), (.string p1_s)]) Try.func25 rfl rfl rfl rfl rfl ?_;rw [m_strings_Builder_WriteString_v0e49.eq_1] at hm;have hst := St.startL (l := [qc0, qc0_1]) rfl col w0;replace hb0 := hb0.startL (dst_nz hd 0 rfl) (dst_ix hd 0 rfl);replace h0_2 := h0_2.startL (dst_nz hd 1 rfl) (dst_ix hd 1 rfl);refine go ?_;refine lv (v := .nilIface) rfl rfl (r_assign rfl) <| go ?_;obtain ⟨r_1, hr_2, hm⟩ := bZ hm;refine lcA (c_strings_Builder_copyCheck_v0e49 (colL [qc0, qc0_1] col) _ 440 441 rfl g0 ((p0_b.1.1, p0_b.1.2), p0_b.2.1, p0_b.2.2) a0_2 cap0_2 h0_2 hb0 r_1 hr_2) ?_;rintro _ w_7 ⟨col_9, oa_3, oc_4, rfl, hg_8, oh_5, ohb_6⟩;refine ⟨_, rfl, go ?_⟩;refine lV (.pointer ((some (⟨g0, 0, none⟩ : Addr)).map (·.add 0))) (r_nilCheck rfl) <| lFa ⟨_, _, rfl⟩ ?_;refine lW ((((ohb_6.atN).part 0 2 _ rfl)).nth (q := 1) rfl) <| lMT rfl ?_;obtain ⟨hb_10, hm⟩ := chk_some hm;refine l_appendS (col := col_9) (w := w_7) (c := 441) (xs := r_1.1.2) (s := p1_s) oh_5 rfl Try.underlying45 Try.underlying9 (show Try.prog.info? 5 = some Try.t5 from rfl) rfl rfl rfl rfl rfl hb_10 (by decide) ?_;intro a_11 cap_12 w_13 col_14 hk_15 hs_16 h_17;refine lV (.pointer ((some (⟨g0, 0, none⟩ : Addr)).map (·.add 0))) (r_nilCheck rfl) <| lFa ⟨_, _, rfl⟩ ?_;replace ohb_6 := ohb_6.kp hk_15;refine l_bstoreF (off := 1) (v := (.slice a_11 ((r_1.1.2 ++ sints p1_s).length) cap_12)) ohb_6 Try.sizeOf45 rfl rfl (by intro u hu; simp only [Value.cells, List.mem_cons, List.not_mem_nil, or_false] at hu; subst hu; rfl) rfl rfl ?_;intro w_18 hk_19 hs_20 hb_21;replace hb_21 : Box 49 440 col_14 w_18 g0 #[(.pointer (bif r_1.1.1 then some ⟨g0, 0, none⟩ else none)), (.slice a_11 ((r_1.1.2 ++ sints p1_s).length) cap_12), (.int .i64 r_1.2.1), (.bool r_1.2.2)] := hb_21;refine go ?_;refine lv (v := .nilIface) rfl rfl (r_assign rfl) <| go ?_;cases hm;replace hst := ((hst.kpp hg_8).kp hk_15 hs_16).kp hk_19 hs_20;replace h_17 := h_17.kp hk_19;exact ⟨rfl, colFL w0.heap.size [qc0, qc0_1] col col_14 (fun n => bif Nat.beq n 441 then qc0_1 else bif Nat.beq n 440 then qc0 else 0), a_11, cap_12, rfl, hst.finL rfl (fun n => bif Nat.beq n 441 then qc0_1 else bif Nat.beq n 440 then qc0 else 0), hst.finOwnL (g := (fun n => bif Nat.beq n 441 then qc0_1 else bif Nat.beq n 440 then qc0 else 0)) rfl h_17 (by decide) (by decide) rfl, hst.finBoxL (g := (fun n => bif Nat.beq n 441 then qc0_1 else bif Nat.beq n 440 then qc0 else 0)) hb_21 (by decide) (by decide) rfl⟩
def m_query_writer_command (p0_w : ((Bool × (List Int)) × Int × Bool)) (p1_words : ByteArray) : Option ((Bool × (List Int)) × Int × Bool) :=
  chk (p1_words.size + (⟨#[59, 10]⟩ : ByteArray).size ≤ maxLen) ((m_strings_Builder_WriteString_v0e49 ((p0_w.1.1, p0_w.1.2), p0_w.2.1, p0_w.2.2) (p1_words ++ (⟨#[59, 10]⟩))).bind fun r_2 => some ((r_2.2.2.1.1, r_2.2.2.1.2), IntKind.i64.wrap (r_2.2.2.2.1 + 1), r_2.2.2.2.2))
theorem c_query_writer_command {g0 cap0_2 : Nat} {a0_2 : Option Addr} {col : Col} {w0 : World} {p0_w : ((Bool × (List Int)) × Int × Bool)} {p1_words : ByteArray} {r : ((Bool × (List Int)) × Int × Bool)} (qc0 qc0_1 : Nat) (hm : m_query_writer_command p0_w p1_words = some r) (hd : dstB [qc0, qc0_1] = true) (h0_2 : Own (Rep.int .u8) 5 qc0_1 col w0 a0_2 cap0_2 p0_w.1.2) (hb0 : Box 49 qc0 col w0 g0 #[(.pointer (bif p0_w.1.1 then some ⟨g0, 0, none⟩ else none)), (.slice a0_2 p0_w.1.2.length cap0_2), (.int .i64 p0_w.2.1), (.bool p0_w.2.2)]) :
    Calls Try.prog 16 #[(.pointer (some ⟨g0, 0, none⟩)), (.string p1_words)] w0 (fun e w' => ∃ (col' : Col) (oa1 : Option Addr) (oc2 : Nat), e = .returned (.tuple #[]) ∧ KeepP (pS [qc0, qc0_1]) col w0 col' w' ∧ Own (Rep.int .u8) 5 qc0_1 col' w' oa1 oc2 r.1.2 ∧ Box 49 qc0 col' w' g0 #[(.pointer (bif r.1.1 then some ⟨g0, 0, none⟩ else none)), (.slice oa1 r.1.2.length oc2), (.int .i64 r.2.1), (.bool r.2.2)]) := by
 refine calls_of0  (m := 17) (args := [(.pointer (some ⟨g0, 0, none⟩)), (.string p1_words)]) Try.func16 rfl rfl rfl rfl ?_;rw [m_query_writer_command.eq_1] at hm;have hst := St.startL (l := [qc0, qc0_1]) rfl col w0;replace hb0 := hb0.startL (dst_nz hd 0 rfl) (dst_ix hd 0 rfl);replace h0_2 := h0_2.startL (dst_nz hd 1 rfl) (dst_ix hd 1 rfl);refine go ?_;refine lV (.pointer (some ⟨g0, 0, none⟩)) (r_nilCheck rfl) <| lFa ⟨_, _, rfl⟩ ?_;refine lMT rfl ?_;obtain ⟨hb_1, hm⟩ := chk_some hm;refine lV (.string (p1_words ++ (⟨#[59, 10]⟩))) (r_addS Try.underlying9 rfl rfl hb_1) ?_;obtain ⟨r_2, hr_3, hm⟩ := bZ hm;refine lcA (c_strings_Builder_WriteString_v0e49 440 441 hr_3 rfl h0_2 hb0) ?_;rintro _ w_8 ⟨col_10, oa_4, oc_5, rfl, hg_9, oh_6, ohb_7⟩;refine ⟨_, rfl, go ?_⟩;refine lV (.pointer (some ⟨g0, 0, none⟩)) (r_nilCheck rfl) <| lFLb ohb_7 ?_;refine go ?_;refine lV (.pointer (some ⟨g0, 0, none⟩)) (r_nilCheck rfl) <| lFa ⟨_, _, rfl⟩ ?_;refine l_bstoreF (off := 2) (v := (.int .i64 (IntKind.i64.wrap (r_2.2.2.2.1 + 1)))) ohb_7 Try.sizeOf3 rfl rfl (by intro u hu; simp only [Value.cells, List.mem_cons, List.not_mem_nil, or_false] at hu; subst hu; rfl) rfl rfl ?_;intro w_11 hk_12 hs_13 hb_14;replace hb_14 : Box 49 440 col_10 w_11 g0 #[(.pointer (bif r_2.2.2.1.1 then some ⟨g0, 0, none⟩ else none)), (.slice oa_4 r_2.2.2.1.2.length oc_5), (.int .i64 (IntKind.i64.wrap (r_2.2.2.2.1 + 1))), (.bool r_2.2.2.2.2)] := hb_14;refine lnil ?_;cases hm;replace hst := (hst.kpp hg_9).kp hk_12 hs_13;replace oh_6 := oh_6.kp hk_12;exact ⟨rfl, colFL w0.heap.size [qc0, qc0_1] col col_10 (fun n => bif Nat.beq n 441 then qc0_1 else bif Nat.beq n 440 then qc0 else 0), oa_4, oc_5, rfl, hst.finL rfl (fun n => bif Nat.beq n 441 then qc0_1 else bif Nat.beq n 440 then qc0 else 0), hst.finOwnL (g := (fun n => bif Nat.beq n 441 then qc0_1 else bif Nat.beq n 440 then qc0 else 0)) rfl oh_6 (by decide) (by decide) rfl, hst.finBoxL (g := (fun n => bif Nat.beq n 441 then qc0_1 else bif Nat.beq n 440 then qc0 else 0)) hb_14 (by decide) (by decide) rfl⟩
abbrev PairsV := List (ByteArray × ByteArray)
abbrev QryV := Int × PairsV × PairsV × Int × List ByteArray × (Bool × Bool)
theorem bytes_ext {a b : ByteArray} (h : a.data.toList = b.data.toList) : a = b := ByteArray.ext (Array.toList_inj.1 h)
def jtl : List ByteArray → ByteArray
 | [] => ⟨#[]⟩
 | y :: r => (⟨#[44, 32]⟩ ++ y) ++ jtl r
def jn : List ByteArray → ByteArray
 | [] => ⟨#[]⟩
 | x :: r => x ++ jtl r
def szT (l : List ByteArray) : Nat := (l.map fun s => s.size + 2).sum
theorem szT_cons (x : ByteArray) (l : List ByteArray) : szT (x :: l) = x.size + 2 + szT l := by simp [szT]
theorem szT_app (a b : List ByteArray) : szT (a ++ b) = szT a + szT b := by simp [szT]
theorem jtl_size : ∀ l : List ByteArray, (jtl l).size ≤ szT l
 | [] => Nat.zero_le _
 | x :: l => by
  have := jtl_size l
  have h2 : (⟨#[44, 32]⟩ : ByteArray).size = 2 := rfl
  rw [jtl, szT_cons, ByteArray.size_append, ByteArray.size_append, h2]; omega
theorem jn_size (l : List ByteArray) : (jn l).size ≤ szT l := by
 cases l with
 | nil => exact Nat.zero_le _
 | cons x l =>
  have := jtl_size l
  rw [jn, szT_cons, ByteArray.size_append]; omega
theorem jtl_data : ∀ l : List ByteArray, (jtl l).data.toList = Lib.joinTail [44, 32] (l.map (·.data.toList))
 | [] => rfl
 | x :: l => by
  rw [jtl, ByteArray.toList_data_append, ByteArray.toList_data_append, jtl_data l, Lib.joinTail, Lib.joinTail, List.map_cons, List.map_cons, List.flatten_cons]
theorem jtext_eq (l : List ByteArray) : jtext l ⟨#[44, 32]⟩ = jn l := by
 apply bytes_ext
 cases l with
 | nil => rfl
 | cons x l =>
  rw [jn, ByteArray.toList_data_append, jtl_data]
  show Lib.join _ [44, 32] = _
  rw [List.map_cons, Lib.join_cons]
theorem m_join_eq {l : List ByteArray} (h : szT l ≤ 140737488355328) (h2 : l.length ≤ 140737488355328) : m_join l ⟨#[44, 32]⟩ = some (jn l) := by
 have e := jtext_eq l
 have h3 : (Lib.join (l.map (·.data.toList)) (⟨#[44, 32]⟩ : ByteArray).data.toList).length = (jtext l ⟨#[44, 32]⟩).size := by
  exact List.size_toArray.symm
 have h4 := jn_size l
 rw [m_join, chk_pos ⟨by rw [h3, e]; omega, h2⟩, e]
section
variable {N : Nat} {l : List ByteArray} (hl : l.length ≤ 1099511627776) (hz : szT l ≤ 1099511627776)
include hl
theorem ref_join_L1 : ∀ (f k : Nat) (s : ByteArray), 1 ≤ k → k ≤ l.length → l.length < f + k → s.size + szT (l.drop k) ≤ 140737488355328 → m_r23_join_L1 N l f s (k : Int) = some (s ++ jtl (l.drop k))
 | 0, k, s, h0, h1, h2, h3 => by omega
 | f + 1, k, s, h0, h1, h2, h3 => by
  rw [m_r23_join_L1.eq_2]
  by_cases hk : k < l.length
  ·rw [List.drop_eq_getElem_cons hk, szT_cons] at h3
   have e2 : (⟨#[44, 32]⟩ : ByteArray).size = 2 := rfl
   rw [if_pos (dT (by omega)), if_pos (dT (by omega)), chk_pos (by rw [e2]; simp only [maxLen]; omega), m_r23_join_J2, at?_lt hk, oB, chk_pos (by rw [ByteArray.size_append, e2]; simp only [maxLen]; omega), m_r23_join_J1, w64 (by omega),
    show (k : Int) + 1 = ((k + 1 : Nat) : Int) by omega, ref_join_L1 f (k + 1) _ (by omega) (by omega) (by omega) (by rw [ByteArray.size_append, ByteArray.size_append, e2]; omega), List.drop_eq_getElem_cons hk, jtl]
   simp only [ByteArray.append_assoc]
  ·rw [if_neg (dF (by omega)), List.drop_eq_nil_of_le (by omega), jtl, app_nilB]
include hz
theorem ref_join_eq (hN : l.length < N) : m_r23_join N l = some (jn l) := by
 obtain ⟨f, rfl⟩ : ∃ f, N = f + 1 := ⟨N - 1, by omega⟩
 rw [m_r23_join, m_r23_join_L1.eq_2]
 cases l with
 | nil => rfl
 | cons x r =>
  rw [szT_cons] at hz
  rw [nC] at hl hN
  rw [if_pos (dT (by simp only [nC]; omega)), if_neg (by decide), m_r23_join_J2, show at? (x :: r) 0 = some x from rfl, oB, nil_appB, chk_pos (by rw [show (⟨#[]⟩ : ByteArray).size = 0 from rfl]; simp only [maxLen]; omega), m_r23_join_J1, w64 (by omega)]
  have := ref_join_L1 (N := f + 1) (l := x :: r) (by rw [nC]; omega) f 1 x (by omega) (by rw [nC]; omega) (by rw [nC]; omega) (by rw [List.drop_one, List.tail_cons]; omega)
  rw [List.drop_one, List.tail_cons] at this
  exact this
end
def wd (p : ByteArray × ByteArray) : ByteArray := (p.1 ++ ⟨#[61]⟩) ++ p.2
def szP (l : PairsV) : Nat := (l.map fun p => p.1.size + p.2.size + 3).sum
theorem szP_cons (p : ByteArray × ByteArray) (l : PairsV) : szP (p :: l) = p.1.size + p.2.size + 3 + szP l := by simp [szP]
theorem szP_len : ∀ l : PairsV, 3 * l.length ≤ szP l
 | [] => by simp
 | p :: l => by have := szP_len l; rw [szP_cons, nC]; omega
theorem szT_len : ∀ l : List ByteArray, 2 * l.length ≤ szT l
 | [] => by simp
 | p :: l => by have := szT_len l; rw [szT_cons, nC]; omega
theorem wd_size (p : ByteArray × ByteArray) : (wd p).size = p.1.size + p.2.size + 1 := by
 have h2 : (⟨#[61]⟩ : ByteArray).size = 1 := rfl
 rw [wd, ByteArray.size_append, ByteArray.size_append, h2]; omega
theorem szT_wd : ∀ l : PairsV, szT (l.map wd) = szP l
 | [] => rfl
 | p :: l => by rw [List.map_cons, szT_cons, szP_cons, szT_wd l, wd_size]
theorem szP_drop (l : PairsV) {k : Nat} (h : k < l.length) : szP (l.drop k) = l[k].1.size + l[k].2.size + 3 + szP (l.drop (k + 1)) := by rw [List.drop_eq_getElem_cons h, szP_cons]
theorem szP_drop_le : ∀ (l : PairsV) (k : Nat), szP (l.drop k) ≤ szP l
 | [], k => by simp
 | p :: l, 0 => by simp
 | p :: l, k + 1 => by have := szP_drop_le l k; rw [List.drop_succ_cons, szP_cons]; omega
theorem szT_drop_le : ∀ (l : List ByteArray) (k : Nat), szT (l.drop k) ≤ szT l
 | [], k => by simp
 | p :: l, 0 => by simp
 | p :: l, k + 1 => by have := szT_drop_le l k; rw [List.drop_succ_cons, szT_cons]; omega
section
variable {N : Nat} {l : PairsV} (hz : szP l ≤ 1099511627776)
include hz
theorem ref_words_L1 : ∀ (f k : Nat) (a b : List ByteArray), k ≤ l.length → l.length < f + k → a.length = k → b.length = 2 * k → m_r23_words_L1 N l f a b (k : Int) = some (a ++ (l.drop k).map wd, b ++ (l.drop k).flatMap fun p => [p.1, p.2])
 | 0, k, a, b, h1, h2, h3, h4 => by omega
 | f + 1, k, a, b, h1, h2, h3, h4 => by
  have hll := szP_len l
  rw [m_r23_words_L1.eq_2]
  by_cases hk : k < l.length
  ·have h5 := szP_drop_le l k
   rw [szP_drop l hk] at h5
   have e1 : (⟨#[61]⟩ : ByteArray).size = 1 := rfl
   rw [if_pos (dT (by omega)), at?_lt hk, oB, chk_pos (by rw [e1]; simp only [maxLen]; omega), chk_pos (by rw [ByteArray.size_append, e1]; simp only [maxLen]; omega), chk_pos (by simp only [nC, nN, maxLen]; omega), chk_pos (by simp only [nC, nN, maxLen]; omega), w64 (by omega),
    show (k : Int) + 1 = ((k + 1 : Nat) : Int) by omega, ref_words_L1 f (k + 1) _ _ (by omega) (by omega) (by simp; omega) (by simp; omega), List.drop_eq_getElem_cons hk, List.map_cons, List.flatMap_cons, List.append_assoc, List.append_assoc]
   rfl
  ·rw [if_neg (dF (by omega)), List.drop_eq_nil_of_le (by omega)]
   simp
theorem ref_words_eq (hN : l.length < N) : m_r23_words N l = some (l.map wd, l.flatMap fun p => [p.1, p.2]) := by
 have := ref_words_L1 (N := N) hz N 0 [] [] (by omega) (by omega) rfl rfl
 rw [m_r23_words]
 simpa using this
end
theorem ref_named_L1 {N : Nat} {l : List ByteArray} (hz : szT l ≤ 1099511627776) (hN : szT l < N) : ∀ (f k : Nat), k ≤ l.length → l.length < f + k → m_r23_named_L1 N l f (k : Int) = some ((l.drop k).all nameB)
 | 0, k, h1, h2 => by omega
 | f + 1, k, h1, h2 => by
  have hll := szT_len l
  rw [m_r23_named_L1.eq_2]
  by_cases hk : k < l.length
  ·have h5 := szT_drop_le l k
   rw [List.drop_eq_getElem_cons hk, szT_cons] at h5
   rw [if_pos (dT (by omega)), at?_lt hk, oB, ref_name_eq (by omega) (by omega), oB, List.drop_eq_getElem_cons hk, List.all_cons]
   cases h : nameB l[k] with
   | true => rw [if_neg (by decide), w64 (by omega), show (k : Int) + 1 = ((k + 1 : Nat) : Int) by omega, ref_named_L1 hz hN f (k + 1) (by omega) (by omega), Bool.true_and]
   | false => rw [if_pos (by decide), Bool.false_and]
  ·rw [if_neg (dF (by omega)), List.drop_eq_nil_of_le (by omega)]; rfl
theorem ref_named_eq {N : Nat} {l : List ByteArray} (hz : szT l ≤ 1099511627776) (hN : szT l < N) : m_r23_named N l = some (l.all nameB) := by
 have h1 := szT_len l
 exact ref_named_L1 hz hN N 0 (by omega) (by omega)
/-! the program's writer -/
abbrev WrV := (Bool × List Int) × Int × Bool
def nmP (p : ByteArray × ByteArray) : Bool := nameB p.1 && nameB p.2
theorem wname_eq {N : Nat} {w : WrV} {s : ByteArray} (hs : s.size ≤ 1099511627776) (hN : s.size < N) : m_query_writer_name N w s = some (s, ((w.1.1, w.1.2), w.2.1, w.2.2 || !nameB s)) := by
 rw [m_query_writer_name]
 cases h : w.2.2 with
 | true => rw [if_pos rfl, m_query_writer_name_J1]; rfl
 | false => rw [if_neg (by decide), lex_name_eq hs hN, oB, m_query_writer_name_J1]; rfl
theorem wnames_L1 {N : Nat} {L : List ByteArray} (hL : szT L ≤ 1099511627776) : ∀ (l : List ByteArray) (fl : Bool) (xs : List Int) (n : Int) (o : Bool), szT l ≤ 1099511627776 → szT l < N → m_query_writer_names_L1 N L l fl xs n o = some (jn L, ((fl, xs), n, o || !(l.all nameB)))
 | [], fl, xs, n, o, h, _ => by
  have := szT_len L
  rw [m_query_writer_names_L1.eq_1, m_join_eq (by omega) (by omega), oB]
  simp
 | x :: l, fl, xs, n, o, h, hN => by
  rw [szT_cons] at h hN
  rw [m_query_writer_names_L1.eq_2, wname_eq (by omega) (by omega), oB, wnames_L1 hL l fl xs n _ (by omega) (by omega), List.all_cons]
  cases o <;> cases nameB x <;> simp
theorem wnames_eq {N : Nat} {w : WrV} {l : List ByteArray} (h : szT l ≤ 1099511627776) (hN : szT l < N) : m_query_writer_names N w l = some (jn l, ((w.1.1, w.1.2), w.2.1, w.2.2 || !(l.all nameB))) := wnames_L1 h l _ _ _ _ h hN
def pjn (head : ByteArray) (ps : List ByteArray) : ByteArray := if ps = [] then ⟨#[]⟩ else head ++ jn ps
theorem wpairs_L1 {N : Nat} {head : ByteArray} (hh : head.size ≤ 1099511627776) : ∀ (l : PairsV) (fl : Bool) (xs : List Int) (n : Int) (o : Bool) (ps : List ByteArray), szT ps + szP l ≤ 1099511627776 → szP l < N →
  m_query_writer_pairs_L1 N head l fl xs n o ps = some (pjn head (ps ++ l.map wd), ((fl, xs), n, o || !(l.all nmP)))
 | [], fl, xs, n, o, ps, h, _ => by
  have h1 := szT_len ps
  have h2 := jn_size ps
  rw [m_query_writer_pairs_L1.eq_1, List.map_nil, List.append_nil, pjn]
  by_cases hp : ps = []
  ·subst hp; simp
  ·have : ps.length ≠ 0 := fun e => hp (List.length_eq_zero_iff.1 e)
   rw [if_neg (dF (by omega)), m_join_eq (by omega) (by omega), oB, chk_pos (by simp only [maxLen]; omega), if_neg hp]
   simp
 | p :: l, fl, xs, n, o, ps, h, hN => by
  have h1 := szT_len ps
  have e1 : (⟨#[61]⟩ : ByteArray).size = 1 := rfl
  rw [szP_cons] at h hN
  rw [m_query_writer_pairs_L1.eq_2, wname_eq (by omega) (by omega), oB, chk_pos (by rw [e1]; simp only [maxLen]; omega), wname_eq (by omega) (by omega), oB, chk_pos (by rw [ByteArray.size_append, e1]; simp only [maxLen]; omega), chk_pos (by simp only [nC, nN, maxLen]; omega)]
  have e2 : szT (ps ++ [wd p]) = szT ps + (p.1.size + p.2.size + 3) := by rw [szT_app, szT_cons, wd_size]; rfl
  have ih := wpairs_L1 (N := N) hh l fl xs n ((o || !nameB p.1) || !nameB p.2) (ps ++ [wd p]) (by rw [e2]; omega) (by omega)
  rw [wd] at ih
  refine ih.trans ?_
  rw [List.all_cons, nmP, List.map_cons, List.append_assoc, List.singleton_append, wd]
  cases o <;> cases nameB p.1 <;> cases nameB p.2 <;> simp
theorem wpairs_eq {N : Nat} {w : WrV} {head : ByteArray} {l : PairsV} (hh : head.size ≤ 1099511627776) (h : szP l ≤ 1099511627776) (hN : szP l < N) : m_query_writer_pairs N w head l = some (pjn head (l.map wd), ((w.1.1, w.1.2), w.2.1, w.2.2 || !(l.all nmP))) := by
 rw [m_query_writer_pairs]
 have := wpairs_L1 (N := N) hh l w.1.1 w.1.2 w.2.1 w.2.2 [] (by simpa [szT] using h) hN
 simpa using this
theorem wcommand_eq {w : WrV} {s : ByteArray} (h : w.1.2.length + s.size + 2 ≤ 140737488355328) : m_query_writer_command w s = some ((true, w.1.2 ++ sints (s ++ ⟨#[59, 10]⟩)), IntKind.i64.wrap (w.2.1 + 1), w.2.2) := by
 have e1 : (⟨#[59, 10]⟩ : ByteArray).size = 2 := rfl
 rw [m_query_writer_command, chk_pos (by rw [e1]; simp only [maxLen]; omega), m_strings_Builder_WriteString_v0e49, m_bcc, oB, chk_pos (by rw [ByteArray.size_append, e1]; show w.1.2.length + _ ≤ _; omega), oB]
theorem pjn_size (head : ByteArray) (ps : List ByteArray) : (pjn head ps).size ≤ head.size + szT ps := by
 rw [pjn]
 split
 ·exact Nat.zero_le _
 ·have := jn_size ps
  rw [ByteArray.size_append]; omega
def useT (q : QryV) : ByteArray := if q.2.2.2.1 = 1 then ⟨#[117, 115, 101, 32, 102, 105, 108, 108]⟩ else if q.2.2.2.1 = 2 then ⟨#[117, 115, 101, 32, 100, 101, 103, 114, 101, 101]⟩ else if q.2.2.2.1 = 3 then ((⟨#[117, 115, 101, 32, 111, 114, 100, 101, 114, 40]⟩ : ByteArray) ++ jn q.2.2.2.2.1) ++ ⟨#[41]⟩ else ⟨#[]⟩
def howB (q : QryV) : Bool := decide (q.2.2.2.1 = 1 ∨ q.2.2.2.1 = 2 ∨ q.2.2.2.1 = 3)
def ordB (q : QryV) : Bool := !decide (q.2.2.2.1 = 3) || q.2.2.2.2.1.all nameB
theorem useT_size (q : QryV) : (useT q).size ≤ szT q.2.2.2.2.1 + 11 := by
 have := jn_size q.2.2.2.2.1
 have e1 : (⟨#[117, 115, 101, 32, 102, 105, 108, 108]⟩ : ByteArray).size = 8 := rfl
 have e2 : (⟨#[117, 115, 101, 32, 100, 101, 103, 114, 101, 101]⟩ : ByteArray).size = 10 := rfl
 have e3 : (⟨#[117, 115, 101, 32, 111, 114, 100, 101, 114, 40]⟩ : ByteArray).size = 10 := rfl
 have e4 : (⟨#[41]⟩ : ByteArray).size = 1 := rfl
 have e5 : (⟨#[]⟩ : ByteArray).size = 0 := rfl
 rw [useT]
 split
 ·omega
 ·split
  ·omega
  ·split
   ·rw [ByteArray.size_append, ByteArray.size_append]; omega
   ·omega
theorem wuses_eq {N : Nat} {w : WrV} {q : QryV} (h : szT q.2.2.2.2.1 ≤ 1099511627776) (hN : szT q.2.2.2.2.1 < N) : m_query_writer_uses N w q = some (useT q, ((w.1.1, w.1.2), w.2.1, w.2.2 || !(howB q && ordB q))) := by
 have e3 : (⟨#[117, 115, 101, 32, 111, 114, 100, 101, 114, 40]⟩ : ByteArray).size = 10 := rfl
 have e4 : (⟨#[41]⟩ : ByteArray).size = 1 := rfl
 have h5 := jn_size q.2.2.2.2.1
 rw [m_query_writer_uses, useT, howB, ordB]
 by_cases h1 : q.2.2.2.1 = 1
 ·rw [if_pos (dT h1), if_pos h1]; simp [h1]
 ·by_cases h2 : q.2.2.2.1 = 2
  ·rw [if_neg (dF h1), if_pos (dT h2), if_neg h1, if_pos h2]; simp [h2]
  ·by_cases h3 : q.2.2.2.1 = 3
   ·rw [if_neg (dF h1), if_neg (dF h2), if_pos (dT h3), if_neg h1, if_neg h2, if_pos h3, wnames_eq h hN, oB, chk_pos (by rw [e3]; simp only [maxLen]; omega), chk_pos (by rw [ByteArray.size_append, e3, e4]; simp only [maxLen]; omega)]
    simp [h3]
   ·rw [if_neg (dF h1), if_neg (dF h2), if_neg (dF h3), if_neg h1, if_neg h2, if_neg h3]
    simp [h1, h2, h3]
theorem ruses_eq {N : Nat} {q : QryV} (h : szT q.2.2.2.2.1 ≤ 1099511627776) (hN : szT q.2.2.2.2.1 < N) : m_r23_uses N q = some (if howB q = true then useT q ++ ⟨#[59, 10]⟩ else ⟨#[]⟩) := by
 have e3 : (⟨#[117, 115, 101, 32, 111, 114, 100, 101, 114, 40]⟩ : ByteArray).size = 10 := rfl
 have e4 : (⟨#[41, 59, 10]⟩ : ByteArray).size = 3 := rfl
 have h5 := jn_size q.2.2.2.2.1
 have h6 := szT_len q.2.2.2.2.1
 rw [m_r23_uses, useT, howB]
 by_cases h1 : q.2.2.2.1 = 1
 ·rw [if_pos (dT h1), if_pos h1, if_pos (dT (Or.inl h1))]; rfl
 ·by_cases h2 : q.2.2.2.1 = 2
  ·rw [if_neg (dF h1), if_pos (dT h2), if_neg h1, if_pos h2, if_pos (dT (Or.inr (Or.inl h2)))]; rfl
  ·by_cases h3 : q.2.2.2.1 = 3
   ·rw [if_neg (dF h1), if_neg (dF h2), if_pos (dT h3), if_neg h1, if_neg h2, if_pos h3, if_pos (dT (Or.inr (Or.inr h3))), ref_join_eq (by omega) h (by omega), oB, chk_pos (by rw [e3]; simp only [maxLen]; omega), chk_pos (by rw [ByteArray.size_append, e3, e4]; simp only [maxLen]; omega)]
    rw [ByteArray.append_assoc, ByteArray.append_assoc, ByteArray.append_assoc]; rfl
   ·rw [if_neg (dF h1), if_neg (dF h2), if_neg (dF h3), if_neg (dF (by omega))]
def m_r23_shape (p0_q : (Int × (List (ByteArray × ByteArray)) × (List (ByteArray × ByteArray)) × Int × (List ByteArray) × (Bool × Bool))) : Option Bool :=
  if (decide (p0_q.1 = 1)) = true then (some (decide ((p0_q.2.2.1.length : Int) = 0))) else (if (decide (p0_q.1 = 2)) = true then (some (decide (0 < (p0_q.2.1.length : Int)))) else (if (decide (p0_q.1 = 3)) = true then (some (decide ((p0_q.2.1.length : Int) = 1))) else (some false)))
theorem c_r23_shape {cap0_0 cap0_2 cap0_4 : Nat} {a0_0 a0_2 a0_4 : Option Addr} {col : Col} {w0 : World} {p0_q : (Int × (List (ByteArray × ByteArray)) × (List (ByteArray × ByteArray)) × Int × (List ByteArray) × (Bool × Bool))} {r : Bool} (hm : m_r23_shape p0_q = some r) (h0_0 : Sl (Rep.pair Rep.str Rep.str) col w0 a0_0 cap0_0 p0_q.2.1) (h0_2 : Sl (Rep.pair Rep.str Rep.str) col w0 a0_2 cap0_2 p0_q.2.2.1) (h0_4 : Sl Rep.str col w0 a0_4 cap0_4 p0_q.2.2.2.2.1) :
    Calls Try.prog 9 #[(.agg #[(.int .i8 p0_q.1), (.slice a0_0 p0_q.2.1.length cap0_0), (.slice a0_2 p0_q.2.2.1.length cap0_2), (.int .i8 p0_q.2.2.2.1), (.slice a0_4 p0_q.2.2.2.2.1.length cap0_4), (.bool p0_q.2.2.2.2.2.1), (.bool p0_q.2.2.2.2.2.2)])] w0 (fun e w' => e = .returned ((.bool r)) ∧ Below w0.heap.size w0 w') := by
 refine calls_of1 2 (m := 23) Try.func9 rfl rfl rfl rfl rfl ?_;rw [m_r23_shape.eq_1] at hm;have hst := St.start col w0;refine go ?_;refine l_boxA (col := (col0 col)) 1 rfl ?_;intro g_1 w_2 col_3 hg_4 hb_5;refine go ?_;refine lFLb hb_5 ?_;refine go ?_;replace hst := hst.grow hg_4;refine wcb hm (fun hb hm => go ?_) fun hb hm => go ?_
 ·refine lFLb hb_5 ?_;refine go ?_;cases hm;exact ⟨rfl, rfl, hst.below⟩
 refine wcb hm (fun hb hm => go ?_) fun hb hm => go ?_
 ·refine lFLb hb_5 ?_;refine go ?_;cases hm;exact ⟨rfl, rfl, hst.below⟩
 refine wcb hm (fun hb hm => go ?_) fun hb hm => go ?_
 ·refine lFLb hb_5 ?_;refine go ?_;cases hm;exact ⟨rfl, rfl, hst.below⟩
 cases hm;exact ⟨rfl, rfl, hst.below⟩
def m_r23_switched (p0_on : Bool) : Option ByteArray :=
  if p0_on = true then (some (⟨#[32, 111, 110, 59, 10]⟩)) else (some (⟨#[32, 111, 102, 102, 59, 10]⟩))
theorem c_r23_switched {col : Col} {w0 : World} {p0_on : Bool} {r : ByteArray} (hm : m_r23_switched p0_on = some r)  :
    Calls Try.prog 13 #[(.bool p0_on)] w0 (fun e w' => e = .returned ((.string r)) ∧ Below w0.heap.size w0 w') := by
 refine calls_of1 2 (m := 4) Try.func13 rfl rfl rfl rfl rfl ?_;rw [m_r23_switched.eq_1] at hm;have hst := St.start col w0;refine go ?_;refine wcb hm (fun hb hm => go ?_) fun hb hm => go ?_
 ·cases hm;exact ⟨rfl, rfl, hst.below⟩
 cases hm;exact ⟨rfl, rfl, hst.below⟩
def m_r23_Text_J1 (i_31 : Int) (kk_L1 : (ByteArray → Int → Int → (List (ByteArray × ByteArray)) → (List (ByteArray × ByteArray)) → Int → (List ByteArray) → Bool → Bool → Int → Option (ByteArray × Int))) (s_34 : ByteArray) (n_35 : Int) (before_36 : Int) (before_37 : List (ByteArray × ByteArray)) (before_41 : List (ByteArray × ByteArray)) (before_45 : Int) (before_46 : List ByteArray) (before_50 : Bool) (before_51 : Bool) : Option (ByteArray × Int) :=
  kk_L1 s_34 n_35 before_36 before_37 before_41 before_45 before_46 before_50 before_51 (IntKind.i64.wrap (i_31 + 1))
def m_r23_Text_J6 (i_31 : Int) (kk_L1 : (ByteArray → Int → Int → (List (ByteArray × ByteArray)) → (List (ByteArray × ByteArray)) → Int → (List ByteArray) → Bool → Bool → Int → Option (ByteArray × Int))) (e_52 : (Int × (List (ByteArray × ByteArray)) × (List (ByteArray × ByteArray)) × Int × (List ByteArray) × (Bool × Bool))) (r_99 : (ByteArray × (List ByteArray))) (s_127 : ByteArray) (n_128 : Int) : Option (ByteArray × Int) :=
  chk (s_127.size + r_99.1.size ≤ maxLen) (m_r23_Text_J1 i_31 kk_L1 (s_127 ++ r_99.1) (IntKind.i64.wrap (n_128 + 1)) e_52.1 e_52.2.1 e_52.2.2.1 e_52.2.2.2.1 e_52.2.2.2.2.1 e_52.2.2.2.2.2.1 e_52.2.2.2.2.2.2)
def m_r23_Text_J5 (before_30 : Bool) (i_31 : Int) (kk_L1 : (ByteArray → Int → Int → (List (ByteArray × ByteArray)) → (List (ByteArray × ByteArray)) → Int → (List ByteArray) → Bool → Bool → Int → Option (ByteArray × Int))) (e_52 : (Int × (List (ByteArray × ByteArray)) × (List (ByteArray × ByteArray)) × Int × (List ByteArray) × (Bool × Bool))) (r_99 : (ByteArray × (List ByteArray))) (s_123 : ByteArray) (n_124 : Int) : Option (ByteArray × Int) :=
  if (!decide (e_52.2.2.2.2.2.2 = before_30)) = true then (chk (s_123.size + (⟨#[112, 114, 117, 110, 101, 32, 97, 112, 97, 114, 116]⟩ : ByteArray).size ≤ maxLen) ((m_r23_switched e_52.2.2.2.2.2.2).bind fun r_135 => chk ((s_123 ++ (⟨#[112, 114, 117, 110, 101, 32, 97, 112, 97, 114, 116]⟩)).size + r_135.size ≤ maxLen) (m_r23_Text_J6 i_31 kk_L1 e_52 r_99 ((s_123 ++ (⟨#[112, 114, 117, 110, 101, 32, 97, 112, 97, 114, 116]⟩)) ++ r_135) (IntKind.i64.wrap (n_124 + 1))))) else (m_r23_Text_J6 i_31 kk_L1 e_52 r_99 s_123 n_124)
def m_r23_Text_J4 (before_29 : Bool) (before_30 : Bool) (i_31 : Int) (kk_L1 : (ByteArray → Int → Int → (List (ByteArray × ByteArray)) → (List (ByteArray × ByteArray)) → Int → (List ByteArray) → Bool → Bool → Int → Option (ByteArray × Int))) (e_52 : (Int × (List (ByteArray × ByteArray)) × (List (ByteArray × ByteArray)) × Int × (List ByteArray) × (Bool × Bool))) (r_99 : (ByteArray × (List ByteArray))) (s_119 : ByteArray) (n_120 : Int) : Option (ByteArray × Int) :=
  if (!decide (e_52.2.2.2.2.2.1 = before_29)) = true then (chk (s_119.size + (⟨#[112, 114, 117, 110, 101, 32, 98, 97, 114, 114, 101, 110]⟩ : ByteArray).size ≤ maxLen) ((m_r23_switched e_52.2.2.2.2.2.1).bind fun r_141 => chk ((s_119 ++ (⟨#[112, 114, 117, 110, 101, 32, 98, 97, 114, 114, 101, 110]⟩)).size + r_141.size ≤ maxLen) (m_r23_Text_J5 before_30 i_31 kk_L1 e_52 r_99 ((s_119 ++ (⟨#[112, 114, 117, 110, 101, 32, 98, 97, 114, 114, 101, 110]⟩)) ++ r_141) (IntKind.i64.wrap (n_120 + 1))))) else (m_r23_Text_J5 before_30 i_31 kk_L1 e_52 r_99 s_119 n_120)
def m_r23_Text_J3 (N : Nat) (s_13 : ByteArray) (n_14 : Int) (before_15 : Int) (before_16 : List (ByteArray × ByteArray)) (before_20 : List (ByteArray × ByteArray)) (before_24 : Int) (before_25 : List ByteArray) (before_29 : Bool) (before_30 : Bool) (i_31 : Int) (kk_L1 : (ByteArray → Int → Int → (List (ByteArray × ByteArray)) → (List (ByteArray × ByteArray)) → Int → (List ByteArray) → Bool → Bool → Int → Option (ByteArray × Int))) (e_52 : (Int × (List (ByteArray × ByteArray)) × (List (ByteArray × ByteArray)) × Int × (List ByteArray) × (Bool × Bool))) (r_90 : ByteArray) (r_99 : (ByteArray × (List ByteArray))) (names_109 : List ByteArray) : Option (ByteArray × Int) :=
  (m_r23_named N names_109).bind fun r_113 => if (!r_113) = true then (some (⟨#[]⟩, 50)) else ((m_r23_uses N (before_15, before_16, before_20, before_24, before_25, (before_29, before_30))).bind fun r_146 => if (!decide (r_90 = r_146)) = true then (chk (s_13.size + r_90.size ≤ maxLen) (m_r23_Text_J4 before_29 before_30 i_31 kk_L1 e_52 r_99 (s_13 ++ r_90) (IntKind.i64.wrap (n_14 + 1)))) else (m_r23_Text_J4 before_29 before_30 i_31 kk_L1 e_52 r_99 s_13 n_14))
def m_r23_Text_J2 (N : Nat) (s_13 : ByteArray) (n_14 : Int) (before_15 : Int) (before_16 : List (ByteArray × ByteArray)) (before_20 : List (ByteArray × ByteArray)) (before_24 : Int) (before_25 : List ByteArray) (before_29 : Bool) (before_30 : Bool) (i_31 : Int) (kk_L1 : (ByteArray → Int → Int → (List (ByteArray × ByteArray)) → (List (ByteArray × ByteArray)) → Int → (List ByteArray) → Bool → Bool → Int → Option (ByteArray × Int))) (e_52 : (Int × (List (ByteArray × ByteArray)) × (List (ByteArray × ByteArray)) × Int × (List ByteArray) × (Bool × Bool))) (r_90 : ByteArray) (v_98 : Bool) : Option (ByteArray × Int) :=
  if v_98 = true then (some (⟨#[]⟩, 50)) else ((m_r23_say N (e_52.1, e_52.2.1, e_52.2.2.1, e_52.2.2.2.1, e_52.2.2.2.2.1, (e_52.2.2.2.2.2.1, e_52.2.2.2.2.2.2))).bind fun r_99 => if (decide (e_52.2.2.2.1 = 3)) = true then (chk ((r_99.2.length + e_52.2.2.2.2.1.length) * 16 ≤ 140737488355328 ∧ r_99.2.length + e_52.2.2.2.2.1.length ≤ maxLen) (m_r23_Text_J3 N s_13 n_14 before_15 before_16 before_20 before_24 before_25 before_29 before_30 i_31 kk_L1 e_52 r_90 r_99 (r_99.2 ++ e_52.2.2.2.2.1))) else (m_r23_Text_J3 N s_13 n_14 before_15 before_16 before_20 before_24 before_25 before_29 before_30 i_31 kk_L1 e_52 r_90 r_99 r_99.2))
def m_r23_Text_L1 (N : Nat) (p0_l : (List (Int × (List (ByteArray × ByteArray)) × (List (ByteArray × ByteArray)) × Int × (List ByteArray) × (Bool × Bool)))) : Nat → ByteArray → Int → Int → (List (ByteArray × ByteArray)) → (List (ByteArray × ByteArray)) → Int → (List ByteArray) → Bool → Bool → Int → Option (ByteArray × Int)
  | 0, _, _, _, _, _, _, _, _, _, _ => none
  | n_10 + 1, s_13, n_14, before_15, before_16, before_20, before_24, before_25, before_29, before_30, i_31 => if (decide (i_31 < (p0_l.length : Int))) = true then ((at? p0_l i_31).bind fun e_52 => (m_r23_shape (e_52.1, e_52.2.1, e_52.2.2.1, e_52.2.2.2.1, e_52.2.2.2.2.1, (e_52.2.2.2.2.2.1, e_52.2.2.2.2.2.2))).bind fun r_86 => (m_r23_uses N (e_52.1, e_52.2.1, e_52.2.2.1, e_52.2.2.2.1, e_52.2.2.2.2.1, (e_52.2.2.2.2.2.1, e_52.2.2.2.2.2.2))).bind fun r_90 => if (!r_86) = true then (m_r23_Text_J2 N s_13 n_14 before_15 before_16 before_20 before_24 before_25 before_29 before_30 i_31 (m_r23_Text_L1 N p0_l n_10) e_52 r_90 true) else (m_r23_Text_J2 N s_13 n_14 before_15 before_16 before_20 before_24 before_25 before_29 before_30 i_31 (m_r23_Text_L1 N p0_l n_10) e_52 r_90 (decide (r_90 = (⟨#[]⟩))))) else (if (decide (4096 < n_14)) = true then (some (⟨#[]⟩, 50)) else (some (s_13, 0)))
termination_by structural x => x
def m_r23_Text (N : Nat) (p0_l : (List (Int × (List (ByteArray × ByteArray)) × (List (ByteArray × ByteArray)) × Int × (List ByteArray) × (Bool × Bool)))) : Option (ByteArray × Int) :=
  m_r23_Text_L1 N p0_l N (⟨#[]⟩) 0 0 ([] : List (ByteArray × ByteArray)) ([] : List (ByteArray × ByteArray)) 1 ([] : List ByteArray) false false 0
theorem c_r23_Text {N cap0 : Nat} {a0 : Option Addr} {col : Col} {w0 : World} {p0_l : (List (Int × (List (ByteArray × ByteArray)) × (List (ByteArray × ByteArray)) × Int × (List ByteArray) × (Bool × Bool)))} {r : (ByteArray × Int)} (hm : m_r23_Text N p0_l = some r) (h0 : Sl (Rep.pair (Rep.int .i8) (Rep.pair (Rep.slice (Rep.pair Rep.str Rep.str)) (Rep.pair (Rep.slice (Rep.pair Rep.str Rep.str)) (Rep.pair (Rep.int .i8) (Rep.pair (Rep.slice Rep.str) (Rep.pair Rep.bool Rep.bool)))))) col w0 a0 cap0 p0_l) :
    Calls Try.prog 5 #[(.slice a0 p0_l.length cap0)] w0 (fun e w' => e = .returned (.tuple #[(.string r.1), (.int .i64 r.2)]) ∧ Below w0.heap.size w0 w') := by
 refine calls_of2 2 3 (m := 100) (args := [(.slice a0 p0_l.length cap0)]) Try.func5 rfl rfl rfl rfl rfl ?_;rw [m_r23_Text.eq_1] at hm;have hst := St.start col w0;refine go ?_;refine lV (.agg #[(.int .i8 0), (.slice none (([] : List (ByteArray × ByteArray)).length) 0), (.slice none (([] : List (ByteArray × ByteArray)).length) 0), (.int .i8 1), (.slice none (([] : List ByteArray).length) 0), (.bool false), (.bool false)]) (r_build (l := [_, _, _, _, _, _]) (qs := [(0, 1), (1, 1), (2, 1), (3, 1), (4, 1), (5, 2)]) Try.underlying32 Try.zeroValue32 ⟨rfl, Try.sizeOf27, rfl, Try.sizeOf28, rfl, Try.sizeOf28, rfl, Try.sizeOf27, rfl, Try.sizeOf29, rfl, Try.sizeOf30, trivial⟩ rfl) <| l_allocA (col := (col0 col)) #[(.int .i8 0), (.slice none (([] : List (ByteArray × ByteArray)).length) 0), (.slice none (([] : List (ByteArray × ByteArray)).length) 0), (.int .i8 0), (.slice none (([] : List ByteArray).length) 0), (.bool false), (.bool false)] 1 Try.zeroValue32 ?_;intro g_1 w_2 col_3 hg_4 hb_5;refine l_bsA hb_5 ?_;intro w_6 hk_7 hs_8 hb_9;refine go ?_;replace hst := (hst.grow hg_4).kp hk_7 hs_8;refine wloopK [0, 6, 1000000] (fun n f w_11 => ∃ col_12 s_13 n_14 before_15 a_17 cap_18 before_16 a_21 cap_22 before_20 before_24 a_26 cap_27 before_25 before_29 before_30 i_31 n_10, n_10 = n ∧ m_r23_Text_L1 N p0_l n_10 s_13 n_14 before_15 before_16 before_20 before_24 before_25 before_29 before_30 i_31 = some r ∧ St w0 (col0 col) col_12 w_11 ∧ Sl (Rep.pair Rep.str Rep.str) col_12 w_11 a_17 cap_18 before_16 ∧ Sl (Rep.pair Rep.str Rep.str) col_12 w_11 a_21 cap_22 before_20 ∧ Sl Rep.str col_12 w_11 a_26 cap_27 before_25 ∧ Box 32 1 col_12 w_11 g_1 #[(.int .i8 before_15), (.slice a_17 before_16.length cap_18), (.slice a_21 before_20.length cap_22), (.int .i8 before_24), (.slice a_26 before_25.length cap_27), (.bool before_29), (.bool before_30)] ∧ [4, 5, 7].map f = [.string s_13, .int .i64 n_14, .int .i64 i_31]) N ⟨_, _, 0, 0, none, 0, _, none, 0, _, 1, none, 0, _, _, _, 0, _, rfl, hm, hst, Sl.nil, Sl.nil, Sl.nil, hb_9, rfl⟩ ?_;clear hm; intro n f w_11 hI;obtain ⟨col_12, s_13, n_14, before_15, a_17, cap_18, before_16, a_21, cap_22, before_20, before_24, a_26, cap_27, before_25, before_29, before_30, i_31, n_10, hn, hm, hst, h_19, h_23, h_28, hb_9, hs⟩ := hI;subst hn;refine .lL [4, 5, 7] hs ?_;replace h0 := h0.k0
 cases n_10 with
 | zero => rw [m_r23_Text_L1.eq_1] at hm; cases hm
 | succ n_10 =>
  rw [m_r23_Text_L1.eq_2] at hm;refine go ?_;refine wcb hm (fun hb hm => ?_) fun hb hm => go ?_
  ·refine wskip <| wseq ?_;refine Wp.cutK [0, 6, 7, 1000000] (fun f w_32 => ∃ col_33 s_34 n_35 before_36 a_38 cap_39 before_37 a_42 cap_43 before_41 before_45 a_47 cap_48 before_46 before_50 before_51, m_r23_Text_J1 i_31 (m_r23_Text_L1 N p0_l n_10) s_34 n_35 before_36 before_37 before_41 before_45 before_46 before_50 before_51 = some r ∧ St w0 (col0 col) col_33 w_32 ∧ Sl (Rep.pair Rep.str Rep.str) col_33 w_32 a_38 cap_39 before_37 ∧ Sl (Rep.pair Rep.str Rep.str) col_33 w_32 a_42 cap_43 before_41 ∧ Sl Rep.str col_33 w_32 a_47 cap_48 before_46 ∧ Box 32 1 col_33 w_32 g_1 #[(.int .i8 before_36), (.slice a_38 before_37.length cap_39), (.slice a_42 before_41.length cap_43), (.int .i8 before_45), (.slice a_47 before_46.length cap_48), (.bool before_50), (.bool before_51)] ∧ [4, 5].map f = [.string s_34, .int .i64 n_35]) ?_ ?_
   ·intro f w_32 hJ;obtain ⟨col_33, s_34, n_35, before_36, a_38, cap_39, before_37, a_42, cap_43, before_41, before_45, a_47, cap_48, before_46, before_50, before_51, hm, hst, h_40, h_44, h_49, hb_9, hs⟩ := hJ;rw [m_r23_Text_J1.eq_1] at hm;refine .lL [4, 5] hs <| go ?_;exact ⟨n_10, by omega, rfl, ⟨_, _, _, _, _, _, _, _, _, _, _, _, _, _, _, _, _, _, rfl, hm, hst, h_40, h_44, h_49, hb_9, rfl⟩⟩
   refine go ?_;obtain ⟨e_52, hj_53, hm⟩ := bZ hm;refine lI hj_53 ((h0.ks hst).addr hj_53) ?_;obtain ⟨_, hr_54, hA_55⟩ := (h0.ks hst).atN hj_53;obtain ⟨_, _, rfl, hp_56, hp_57⟩ := rd_pair hr_54;obtain ⟨rfl, _⟩ := hp_56;obtain ⟨_, _, rfl, hp_58, hp_59⟩ := rd_pair hp_57;obtain ⟨⟨a_60, cap_61, rfl, h_62⟩, _⟩ := hp_58;obtain ⟨_, _, rfl, hp_63, hp_64⟩ := rd_pair hp_59;obtain ⟨⟨a_65, cap_66, rfl, h_67⟩, _⟩ := hp_63;obtain ⟨_, _, rfl, hp_68, hp_69⟩ := rd_pair hp_64;obtain ⟨rfl, _⟩ := hp_68;obtain ⟨_, _, rfl, hp_70, hp_71⟩ := rd_pair hp_69;obtain ⟨⟨a_72, cap_73, rfl, h_74⟩, _⟩ := hp_70;obtain ⟨_, _, rfl, hp_75, hp_76⟩ := rd_pair hp_71;obtain ⟨rfl, _⟩ := hp_75;obtain ⟨rfl, _⟩ := hp_76;refine lV (.agg #[(.int .i8 e_52.1), (.slice a_60 e_52.2.1.length cap_61), (.slice a_65 e_52.2.2.1.length cap_66), (.int .i8 e_52.2.2.2.1), (.slice a_72 e_52.2.2.2.2.1.length cap_73), (.bool e_52.2.2.2.2.2.1), (.bool e_52.2.2.2.2.2.2)]) (r_ldN Try.isAgg32 Try.sizeOf32 rfl rfl hA_55) <| l_allocA (col := col_12) #[(.int .i8 0), (.slice none (([] : List (ByteArray × ByteArray)).length) 0), (.slice none (([] : List (ByteArray × ByteArray)).length) 0), (.int .i8 0), (.slice none (([] : List ByteArray).length) 0), (.bool false), (.bool false)] 2 Try.zeroValue32 ?_;intro g_77 w_78 col_79 hg_80 hb_81;refine l_bsA hb_81 ?_;intro w_82 hk_83 hs_84 hb_85;refine go ?_;refine lV _ (r_ldB Try.isAgg32 Try.sizeOf32 hb_85) ?_;obtain ⟨r_86, hr_87, hm⟩ := bZ hm;replace h_62 := (h_62.gr hg_80).kp hk_83;replace h_67 := (h_67.gr hg_80).kp hk_83;replace h_74 := (h_74.gr hg_80).kp hk_83;refine lcA (c_r23_shape hr_87 h_62 h_67 h_74) ?_;rintro _ w_88 ⟨rfl, hg_89⟩;refine ⟨_, rfl, ?_⟩;replace hg_89 : Grow col_79 w_82 col_79 w_88 := .of_below hg_89;refine go ?_;replace hb_85 := hb_85.gr hg_89;refine lV _ (r_ldB Try.isAgg32 Try.sizeOf32 hb_85) ?_;obtain ⟨r_90, hr_91, hm⟩ := bZ hm;replace h_62 := h_62.gr hg_89;replace h_67 := h_67.gr hg_89;replace h_74 := h_74.gr hg_89;refine lcA (c_r23_uses hr_91 h_62 h_67 h_74) ?_;rintro _ w_92 ⟨rfl, hg_93⟩;refine ⟨_, rfl, ?_⟩;replace hg_93 : Grow col_79 w_88 col_79 w_92 := .of_below hg_93;refine lAT rfl <| lnil <| wseq <| wseq ?_;replace h_19 := (((h_19.gr hg_80).kp hk_83).gr hg_89).gr hg_93;replace h_23 := (((h_23.gr hg_80).kp hk_83).gr hg_89).gr hg_93;replace h_28 := (((h_28.gr hg_80).kp hk_83).gr hg_89).gr hg_93;replace hb_9 := (((hb_9.gr hg_80).kp hk_83).gr hg_89).gr hg_93;replace hst := (((hst.grow hg_80).kp hk_83 hs_84).grow hg_89).grow hg_93;replace h_62 := h_62.gr hg_93;replace h_67 := h_67.gr hg_93;replace h_74 := h_74.gr hg_93;replace hb_85 := hb_85.gr hg_93
   refine Wp.cutK [0, 10, 4, 5, 6, 7, 8, 1000000] (fun f w_96 => ∃ col_97 v_98, m_r23_Text_J2 N s_13 n_14 before_15 before_16 before_20 before_24 before_25 before_29 before_30 i_31 (m_r23_Text_L1 N p0_l n_10) e_52 r_90 v_98 = some r ∧ St w0 (col0 col) col_97 w_96 ∧ Sl (Rep.pair Rep.str Rep.str) col_97 w_96 a_17 cap_18 before_16 ∧ Sl (Rep.pair Rep.str Rep.str) col_97 w_96 a_21 cap_22 before_20 ∧ Sl Rep.str col_97 w_96 a_26 cap_27 before_25 ∧ Box 32 1 col_97 w_96 g_1 #[(.int .i8 before_15), (.slice a_17 before_16.length cap_18), (.slice a_21 before_20.length cap_22), (.int .i8 before_24), (.slice a_26 before_25.length cap_27), (.bool before_29), (.bool before_30)] ∧ Sl (Rep.pair Rep.str Rep.str) col_97 w_96 a_60 cap_61 e_52.2.1 ∧ Sl (Rep.pair Rep.str Rep.str) col_97 w_96 a_65 cap_66 e_52.2.2.1 ∧ Sl Rep.str col_97 w_96 a_72 cap_73 e_52.2.2.2.2.1 ∧ Box 32 2 col_97 w_96 g_77 #[(.int .i8 e_52.1), (.slice a_60 e_52.2.1.length cap_61), (.slice a_65 e_52.2.2.1.length cap_66), (.int .i8 e_52.2.2.2.1), (.slice a_72 e_52.2.2.2.2.1.length cap_73), (.bool e_52.2.2.2.2.2.1), (.bool e_52.2.2.2.2.2.2)] ∧ [33].map f = [.bool v_98]) ?_ ?_
   ·intro f w_96 hJ;obtain ⟨col_97, v_98, hm, hst, h_19, h_23, h_28, hb_9, h_62, h_67, h_74, hb_85, hs⟩ := hJ;rw [m_r23_Text_J2.eq_1] at hm;refine .lL [33] hs ?_;refine wcb hm (fun hb hm => go ?_) fun hb hm => go ?_
    ·cases hm;exact ⟨rfl, rfl, hst.below⟩
    refine lV _ (r_ldB Try.isAgg32 Try.sizeOf32 hb_85) ?_;obtain ⟨r_99, hr_100, hm⟩ := bZ hm;refine lcA (c_r23_say 3 hr_100 h_62 h_67 h_74) ?_;rintro _ w_104 ⟨col_106, ra_101, rc_102, rfl, hg_105, rh_103⟩;refine ⟨_, rfl, ?_⟩;refine lM (.tuple #[(.string r_99.1), (.slice ra_101 r_99.2.length rc_102)]) <| lV (.string r_99.1) (r_extract rfl rfl) <| lV (.slice ra_101 r_99.2.length rc_102) (r_extract rfl rfl) <| lAT rfl <| lAS rfl <| lnil <| wseq ?_;replace h_19 := h_19.gr hg_105;replace h_23 := h_23.gr hg_105;replace h_28 := h_28.gr hg_105;replace h_62 := h_62.gr hg_105;replace h_67 := h_67.gr hg_105;replace h_74 := h_74.gr hg_105;replace hb_9 := hb_9.gr hg_105;replace hb_85 := hb_85.gr hg_105;replace hst := hst.grow hg_105;refine Wp.cutK [0, 10, 11, 4, 5, 6, 7, 8, 1000000] (fun f w_107 => ∃ col_108 a_110 cap_111 names_109, m_r23_Text_J3 N s_13 n_14 before_15 before_16 before_20 before_24 before_25 before_29 before_30 i_31 (m_r23_Text_L1 N p0_l n_10) e_52 r_90 r_99 names_109 = some r ∧ St w0 (col0 col) col_108 w_107 ∧ Own Rep.str 9 3 col_108 w_107 a_110 cap_111 names_109 ∧ Sl (Rep.pair Rep.str Rep.str) col_108 w_107 a_17 cap_18 before_16 ∧ Sl (Rep.pair Rep.str Rep.str) col_108 w_107 a_21 cap_22 before_20 ∧ Sl Rep.str col_108 w_107 a_26 cap_27 before_25 ∧ Box 32 1 col_108 w_107 g_1 #[(.int .i8 before_15), (.slice a_17 before_16.length cap_18), (.slice a_21 before_20.length cap_22), (.int .i8 before_24), (.slice a_26 before_25.length cap_27), (.bool before_29), (.bool before_30)] ∧ Sl (Rep.pair Rep.str Rep.str) col_108 w_107 a_60 cap_61 e_52.2.1 ∧ Sl (Rep.pair Rep.str Rep.str) col_108 w_107 a_65 cap_66 e_52.2.2.1 ∧ Sl Rep.str col_108 w_107 a_72 cap_73 e_52.2.2.2.2.1 ∧ Box 32 2 col_108 w_107 g_77 #[(.int .i8 e_52.1), (.slice a_60 e_52.2.1.length cap_61), (.slice a_65 e_52.2.2.1.length cap_66), (.int .i8 e_52.2.2.2.1), (.slice a_72 e_52.2.2.2.2.1.length cap_73), (.bool e_52.2.2.2.2.2.1), (.bool e_52.2.2.2.2.2.2)] ∧ [12].map f = [.slice a_110 names_109.length cap_111]) ?_ ?_
    ·intro f w_107 hJ;obtain ⟨col_108, a_110, cap_111, names_109, hm, hst, h_112, h_19, h_23, h_28, hb_9, h_62, h_67, h_74, hb_85, hs⟩ := hJ;rw [m_r23_Text_J3.eq_1] at hm;refine .lL [12] hs <| go ?_;obtain ⟨r_113, hr_114, hm⟩ := bZ hm;refine lcA (c_r23_named hr_114 (h_112.toSlF Froz.str)) ?_;rintro _ w_115 ⟨rfl, hg_116⟩;refine ⟨_, rfl, ?_⟩;replace hg_116 : Grow col_108 w_107 col_108 w_115 := .of_below hg_116;refine go ?_;replace h_19 := h_19.gr hg_116;replace h_23 := h_23.gr hg_116;replace h_28 := h_28.gr hg_116;replace h_62 := h_62.gr hg_116;replace h_67 := h_67.gr hg_116;replace h_74 := h_74.gr hg_116;replace hb_9 := hb_9.gr hg_116;replace hb_85 := hb_85.gr hg_116;replace hst := hst.grow hg_116;refine wcb hm (fun hb hm => go ?_) fun hb hm => ?_
     ·cases hm;exact ⟨rfl, rfl, hst.below⟩
     refine wskip <| wseq ?_;refine Wp.cutK [0, 11, 6, 7, 8, 1000000] (fun f w_117 => ∃ col_118 s_119 n_120, m_r23_Text_J4 before_29 before_30 i_31 (m_r23_Text_L1 N p0_l n_10) e_52 r_99 s_119 n_120 = some r ∧ St w0 (col0 col) col_118 w_117 ∧ Sl (Rep.pair Rep.str Rep.str) col_118 w_117 a_17 cap_18 before_16 ∧ Sl (Rep.pair Rep.str Rep.str) col_118 w_117 a_21 cap_22 before_20 ∧ Sl Rep.str col_118 w_117 a_26 cap_27 before_25 ∧ Box 32 1 col_118 w_117 g_1 #[(.int .i8 before_15), (.slice a_17 before_16.length cap_18), (.slice a_21 before_20.length cap_22), (.int .i8 before_24), (.slice a_26 before_25.length cap_27), (.bool before_29), (.bool before_30)] ∧ Sl (Rep.pair Rep.str Rep.str) col_118 w_117 a_60 cap_61 e_52.2.1 ∧ Sl (Rep.pair Rep.str Rep.str) col_118 w_117 a_65 cap_66 e_52.2.2.1 ∧ Sl Rep.str col_118 w_117 a_72 cap_73 e_52.2.2.2.2.1 ∧ Box 32 2 col_118 w_117 g_77 #[(.int .i8 e_52.1), (.slice a_60 e_52.2.1.length cap_61), (.slice a_65 e_52.2.2.1.length cap_66), (.int .i8 e_52.2.2.2.1), (.slice a_72 e_52.2.2.2.2.1.length cap_73), (.bool e_52.2.2.2.2.2.1), (.bool e_52.2.2.2.2.2.2)] ∧ [4, 5].map f = [.string s_119, .int .i64 n_120]) ?_ ?_
     ·intro f w_117 hJ;obtain ⟨col_118, s_119, n_120, hm, hst, h_19, h_23, h_28, hb_9, h_62, h_67, h_74, hb_85, hs⟩ := hJ;rw [m_r23_Text_J4.eq_1] at hm;refine .lL [4, 5] hs <| wseq ?_;refine Wp.cutK [0, 11, 6, 7, 8, 1000000] (fun f w_121 => ∃ col_122 s_123 n_124, m_r23_Text_J5 before_30 i_31 (m_r23_Text_L1 N p0_l n_10) e_52 r_99 s_123 n_124 = some r ∧ St w0 (col0 col) col_122 w_121 ∧ Sl (Rep.pair Rep.str Rep.str) col_122 w_121 a_17 cap_18 before_16 ∧ Sl (Rep.pair Rep.str Rep.str) col_122 w_121 a_21 cap_22 before_20 ∧ Sl Rep.str col_122 w_121 a_26 cap_27 before_25 ∧ Box 32 1 col_122 w_121 g_1 #[(.int .i8 before_15), (.slice a_17 before_16.length cap_18), (.slice a_21 before_20.length cap_22), (.int .i8 before_24), (.slice a_26 before_25.length cap_27), (.bool before_29), (.bool before_30)] ∧ Sl (Rep.pair Rep.str Rep.str) col_122 w_121 a_60 cap_61 e_52.2.1 ∧ Sl (Rep.pair Rep.str Rep.str) col_122 w_121 a_65 cap_66 e_52.2.2.1 ∧ Sl Rep.str col_122 w_121 a_72 cap_73 e_52.2.2.2.2.1 ∧ Box 32 2 col_122 w_121 g_77 #[(.int .i8 e_52.1), (.slice a_60 e_52.2.1.length cap_61), (.slice a_65 e_52.2.2.1.length cap_66), (.int .i8 e_52.2.2.2.1), (.slice a_72 e_52.2.2.2.2.1.length cap_73), (.bool e_52.2.2.2.2.2.1), (.bool e_52.2.2.2.2.2.2)] ∧ [4, 5].map f = [.string s_123, .int .i64 n_124]) ?_ ?_
      ·intro f w_121 hJ;obtain ⟨col_122, s_123, n_124, hm, hst, h_19, h_23, h_28, hb_9, h_62, h_67, h_74, hb_85, hs⟩ := hJ;rw [m_r23_Text_J5.eq_1] at hm;refine .lL [4, 5] hs <| wseq ?_;refine Wp.cutK [0, 11, 6, 7, 8, 1000000] (fun f w_125 => ∃ col_126 s_127 n_128, m_r23_Text_J6 i_31 (m_r23_Text_L1 N p0_l n_10) e_52 r_99 s_127 n_128 = some r ∧ St w0 (col0 col) col_126 w_125 ∧ Sl (Rep.pair Rep.str Rep.str) col_126 w_125 a_17 cap_18 before_16 ∧ Sl (Rep.pair Rep.str Rep.str) col_126 w_125 a_21 cap_22 before_20 ∧ Sl Rep.str col_126 w_125 a_26 cap_27 before_25 ∧ Box 32 1 col_126 w_125 g_1 #[(.int .i8 before_15), (.slice a_17 before_16.length cap_18), (.slice a_21 before_20.length cap_22), (.int .i8 before_24), (.slice a_26 before_25.length cap_27), (.bool before_29), (.bool before_30)] ∧ Sl (Rep.pair Rep.str Rep.str) col_126 w_125 a_60 cap_61 e_52.2.1 ∧ Sl (Rep.pair Rep.str Rep.str) col_126 w_125 a_65 cap_66 e_52.2.2.1 ∧ Sl Rep.str col_126 w_125 a_72 cap_73 e_52.2.2.2.2.1 ∧ Box 32 2 col_126 w_125 g_77 #[(.int .i8 e_52.1), (.slice a_60 e_52.2.1.length cap_61), (.slice a_65 e_52.2.2.1.length cap_66), (.int .i8 e_52.2.2.2.1), (.slice a_72 e_52.2.2.2.2.1.length cap_73), (.bool e_52.2.2.2.2.2.1), (.bool e_52.2.2.2.2.2.2)] ∧ [4, 5].map f = [.string s_127, .int .i64 n_128]) ?_ ?_
       ·intro f w_125 hJ;obtain ⟨col_126, s_127, n_128, hm, hst, h_19, h_23, h_28, hb_9, h_62, h_67, h_74, hb_85, hs⟩ := hJ;rw [m_r23_Text_J6.eq_1] at hm;refine .lL [4, 5] hs <| go ?_;obtain ⟨hb_129, hm⟩ := chk_some hm;refine lV (.string (s_127 ++ r_99.1)) (r_addS Try.underlying9 rfl rfl hb_129) <| go ?_;refine lV _ (r_ldB Try.isAgg32 Try.sizeOf32 hb_85) <| l_bsA hb_9 ?_;intro w_130 hk_131 hs_132 hb_133;refine lnil ?_;replace h_62 := h_62.kp hk_131;replace h_67 := h_67.kp hk_131;replace h_74 := h_74.kp hk_131;replace hst := hst.kp hk_131 hs_132;exact ⟨rfl, _, _, _, _, _, _, _, _, _, _, _, _, _, _, _, _, hm, hst, h_62, h_67, h_74, hb_133, rfl⟩
       refine go ?_;refine lFa ⟨_, _, rfl⟩ ?_;refine lV (.pointer (((some (⟨g_77, 0, none⟩ : Addr)).map (·.add 5)).map (·.add 1))) (r_idxA (sz := 1) (j := 1) Try.underlying30 Try.sizeOf4 rfl rfl (by decide) (by decide) (sptr_addr ⟨_, _, rfl⟩)) <| lW ((((hb_85.atN).part 5 2 _ rfl)).nth (q := 1) rfl) <| lFa ⟨_, _, rfl⟩ ?_;refine lV (.pointer (((some (⟨g_1, 0, none⟩ : Addr)).map (·.add 5)).map (·.add 1))) (r_idxA (sz := 1) (j := 1) Try.underlying30 Try.sizeOf4 rfl rfl (by decide) (by decide) (sptr_addr ⟨_, _, rfl⟩)) <| lW ((((hb_9.atN).part 5 2 _ rfl)).nth (q := 1) rfl) <| go ?_;refine wcb hm (fun hb hm => go ?_) fun hb hm => ?_
       ·obtain ⟨hb_134, hm⟩ := chk_some hm;refine lV (.string (s_123 ++ (⟨#[112, 114, 117, 110, 101, 32, 97, 112, 97, 114, 116]⟩))) (r_addS Try.underlying9 rfl rfl hb_134) <| lFa ⟨_, _, rfl⟩ ?_;refine lV (.pointer (((some (⟨g_77, 0, none⟩ : Addr)).map (·.add 5)).map (·.add 1))) (r_idxA (sz := 1) (j := 1) Try.underlying30 Try.sizeOf4 rfl rfl (by decide) (by decide) (sptr_addr ⟨_, _, rfl⟩)) <| lW ((((hb_85.atN).part 5 2 _ rfl)).nth (q := 1) rfl) ?_;obtain ⟨r_135, hr_136, hm⟩ := bZ hm;refine lcA (c_r23_switched (col := col_122) hr_136) ?_;rintro _ w_137 ⟨rfl, hg_138⟩;refine ⟨_, rfl, ?_⟩;replace hg_138 : Grow col_122 w_121 col_122 w_137 := .of_below hg_138;obtain ⟨hb_139, hm⟩ := chk_some hm;refine lV (.string ((s_123 ++ (⟨#[112, 114, 117, 110, 101, 32, 97, 112, 97, 114, 116]⟩)) ++ r_135)) (r_addS Try.underlying9 rfl rfl hb_139) <| go ?_;replace h_19 := h_19.gr hg_138;replace h_23 := h_23.gr hg_138;replace h_28 := h_28.gr hg_138;replace h_62 := h_62.gr hg_138;replace h_67 := h_67.gr hg_138;replace h_74 := h_74.gr hg_138;replace hb_9 := hb_9.gr hg_138;replace hb_85 := hb_85.gr hg_138;replace hst := hst.grow hg_138;exact ⟨rfl, _, _, _, hm, hst, h_19, h_23, h_28, hb_9, h_62, h_67, h_74, hb_85, rfl⟩
       refine wskip ?_;exact ⟨rfl, _, _, _, hm, hst, h_19, h_23, h_28, hb_9, h_62, h_67, h_74, hb_85, rfl⟩
      refine go ?_;refine lFa ⟨_, _, rfl⟩ ?_;refine lV (.pointer (((some (⟨g_77, 0, none⟩ : Addr)).map (·.add 5)).map (·.add 0))) (r_idxA (sz := 1) (j := 0) Try.underlying30 Try.sizeOf4 rfl rfl (by decide) (by decide) (sptr_addr ⟨_, _, rfl⟩)) <| lW ((((hb_85.atN).part 5 2 _ rfl)).nth (q := 0) rfl) <| lFa ⟨_, _, rfl⟩ ?_;refine lV (.pointer (((some (⟨g_1, 0, none⟩ : Addr)).map (·.add 5)).map (·.add 0))) (r_idxA (sz := 1) (j := 0) Try.underlying30 Try.sizeOf4 rfl rfl (by decide) (by decide) (sptr_addr ⟨_, _, rfl⟩)) <| lW ((((hb_9.atN).part 5 2 _ rfl)).nth (q := 0) rfl) <| go ?_;refine wcb hm (fun hb hm => go ?_) fun hb hm => ?_
      ·obtain ⟨hb_140, hm⟩ := chk_some hm;refine lV (.string (s_119 ++ (⟨#[112, 114, 117, 110, 101, 32, 98, 97, 114, 114, 101, 110]⟩))) (r_addS Try.underlying9 rfl rfl hb_140) <| lFa ⟨_, _, rfl⟩ ?_;refine lV (.pointer (((some (⟨g_77, 0, none⟩ : Addr)).map (·.add 5)).map (·.add 0))) (r_idxA (sz := 1) (j := 0) Try.underlying30 Try.sizeOf4 rfl rfl (by decide) (by decide) (sptr_addr ⟨_, _, rfl⟩)) <| lW ((((hb_85.atN).part 5 2 _ rfl)).nth (q := 0) rfl) ?_;obtain ⟨r_141, hr_142, hm⟩ := bZ hm;refine lcA (c_r23_switched (col := col_118) hr_142) ?_;rintro _ w_143 ⟨rfl, hg_144⟩;refine ⟨_, rfl, ?_⟩;replace hg_144 : Grow col_118 w_117 col_118 w_143 := .of_below hg_144;obtain ⟨hb_145, hm⟩ := chk_some hm;refine lV (.string ((s_119 ++ (⟨#[112, 114, 117, 110, 101, 32, 98, 97, 114, 114, 101, 110]⟩)) ++ r_141)) (r_addS Try.underlying9 rfl rfl hb_145) <| go ?_;replace h_19 := h_19.gr hg_144;replace h_23 := h_23.gr hg_144;replace h_28 := h_28.gr hg_144;replace h_62 := h_62.gr hg_144;replace h_67 := h_67.gr hg_144;replace h_74 := h_74.gr hg_144;replace hb_9 := hb_9.gr hg_144;replace hb_85 := hb_85.gr hg_144;replace hst := hst.grow hg_144;exact ⟨rfl, _, _, _, hm, hst, h_19, h_23, h_28, hb_9, h_62, h_67, h_74, hb_85, rfl⟩
      refine wskip ?_;exact ⟨rfl, _, _, _, hm, hst, h_19, h_23, h_28, hb_9, h_62, h_67, h_74, hb_85, rfl⟩
     refine go ?_;refine lV _ (r_ldB Try.isAgg32 Try.sizeOf32 hb_9) ?_;obtain ⟨r_146, hr_147, hm⟩ := bZ hm;refine lcA (c_r23_uses hr_147 h_19 h_23 h_28) ?_;rintro _ w_148 ⟨rfl, hg_149⟩;refine ⟨_, rfl, ?_⟩;replace hg_149 : Grow col_108 w_115 col_108 w_148 := .of_below hg_149;refine go ?_;replace h_19 := h_19.gr hg_149;replace h_23 := h_23.gr hg_149;replace h_28 := h_28.gr hg_149;replace h_62 := h_62.gr hg_149;replace h_67 := h_67.gr hg_149;replace h_74 := h_74.gr hg_149;replace hb_9 := hb_9.gr hg_149;replace hb_85 := hb_85.gr hg_149;replace hst := hst.grow hg_149;refine wcb hm (fun hb hm => go ?_) fun hb hm => ?_
     ·obtain ⟨hb_150, hm⟩ := chk_some hm;refine lV (.string (s_13 ++ r_90)) (r_addS Try.underlying9 rfl rfl hb_150) <| go ?_;exact ⟨rfl, _, _, _, hm, hst, h_19, h_23, h_28, hb_9, h_62, h_67, h_74, hb_85, rfl⟩
     refine wskip ?_;exact ⟨rfl, _, _, _, hm, hst, h_19, h_23, h_28, hb_9, h_62, h_67, h_74, hb_85, rfl⟩
    refine go ?_;refine lFLb hb_85 ?_;refine go ?_;refine wcb hm (fun hb hm => go ?_) fun hb hm => ?_
    ·refine lFLb hb_85 ?_;obtain ⟨hb_151, hm⟩ := chk_some hm;refine l_appA rh_103 h_74.srcC hb_151 ?_;intro a_152 cap_153 w_154 col_155 hk_156 h_157;refine go ?_;replace h_19 := h_19.kpp hk_156;replace h_23 := h_23.kpp hk_156;replace h_28 := h_28.kpp hk_156;replace h_62 := h_62.kpp hk_156;replace h_67 := h_67.kpp hk_156;replace h_74 := h_74.kpp hk_156;replace hb_9 := hb_9.kpp hk_156;replace hb_85 := hb_85.kpp hk_156;replace hst := hst.kpp hk_156;exact ⟨rfl, _, _, _, _, hm, hst, h_157, h_19, h_23, h_28, hb_9, h_62, h_67, h_74, hb_85, rfl⟩
    refine wskip ?_;exact ⟨rfl, _, _, _, _, hm, hst, rh_103, h_19, h_23, h_28, hb_9, h_62, h_67, h_74, hb_85, rfl⟩
   refine go ?_;refine bcb hm (fun hg_158 hm => go ?_) fun hg_158 hm => go ?_
   ·refine lV (.bool true) (r_pickT (congrArg Value.bool hg_158) rfl) <| lnil ?_;exact ⟨rfl, _, _, hm, hst, h_19, h_23, h_28, hb_9, h_62, h_67, h_74, hb_85, rfl⟩
   refine lV (.bool (decide (r_90 = (⟨#[]⟩)))) (r_pickF (congrArg Value.bool hg_158) rfl) <| lnil ?_;exact ⟨rfl, _, _, hm, hst, h_19, h_23, h_28, hb_9, h_62, h_67, h_74, hb_85, rfl⟩
  refine wcb hm (fun hb hm => go ?_) fun hb hm => go ?_
  ·cases hm;exact ⟨rfl, rfl, hst.below⟩
  cases hm;exact ⟨rfl, rfl, hst.below⟩
theorem c_strings_Builder_String_v0e49 (col : Col) (w0 : World) (qc0 : Nat) (qc0_1 : Nat) (hd : dstB [qc0, qc0_1] = true) (g0 : Nat) (p0_b : ((Bool × (List Int)) × Int × Bool)) (a0_2 : Option Addr) (cap0_2 : Nat) (h0_2 : Own (Rep.int .u8) 5 qc0_1 col w0 a0_2 cap0_2 p0_b.1.2) (hb0 : Box 49 qc0 col w0 g0 #[(.pointer (bif p0_b.1.1 then some ⟨g0, 0, none⟩ else none)), (.slice a0_2 p0_b.1.2.length cap0_2), (.int .i64 p0_b.2.1), (.bool p0_b.2.2)]) (r : ByteArray) (hm : m_bstr p0_b = some r) :
    Calls Try.prog 19 #[(.pointer (some ⟨g0, 0, none⟩))] w0 (fun e w' => ∃ (col' : Col), e = .returned ((.string r)) ∧ KeepP (pS [qc0, qc0_1]) col w0 col' w') :=
  bstr_emb  col w0 qc0 qc0_1 hd g0 p0_b a0_2 cap0_2 h0_2 hb0 r hm
def m_query_fits (p0_q : (Int × (List (ByteArray × ByteArray)) × (List (ByteArray × ByteArray)) × Int × (List ByteArray) × (Bool × Bool))) : Option Bool :=
  if (decide (p0_q.1 = 1)) = true then (some (decide ((p0_q.2.2.1.length : Int) = 0))) else (if (decide (p0_q.1 = 2)) = true then (some (decide (0 < (p0_q.2.1.length : Int)))) else (if (decide (p0_q.1 = 3)) = true then (some (decide ((p0_q.2.1.length : Int) = 1))) else (some false)))
theorem c_query_fits {cap0_0 cap0_2 cap0_4 : Nat} {a0_0 a0_2 a0_4 : Option Addr} {col : Col} {w0 : World} {p0_q : (Int × (List (ByteArray × ByteArray)) × (List (ByteArray × ByteArray)) × Int × (List ByteArray) × (Bool × Bool))} {r : Bool} (hm : m_query_fits p0_q = some r) (h0_0 : Sl (Rep.pair Rep.str Rep.str) col w0 a0_0 cap0_0 p0_q.2.1) (h0_2 : Sl (Rep.pair Rep.str Rep.str) col w0 a0_2 cap0_2 p0_q.2.2.1) (h0_4 : Sl Rep.str col w0 a0_4 cap0_4 p0_q.2.2.2.2.1) :
    Calls Try.prog 14 #[(.agg #[(.int .i8 p0_q.1), (.slice a0_0 p0_q.2.1.length cap0_0), (.slice a0_2 p0_q.2.2.1.length cap0_2), (.int .i8 p0_q.2.2.2.1), (.slice a0_4 p0_q.2.2.2.2.1.length cap0_4), (.bool p0_q.2.2.2.2.2.1), (.bool p0_q.2.2.2.2.2.2)])] w0 (fun e w' => e = .returned ((.bool r)) ∧ Below w0.heap.size w0 w') := by
 refine calls_of1 2 (m := 23) Try.func14 rfl rfl rfl rfl rfl ?_;rw [m_query_fits.eq_1] at hm;have hst := St.start col w0;refine go ?_;refine l_boxA (col := (col0 col)) 1 rfl ?_;intro g_1 w_2 col_3 hg_4 hb_5;refine go ?_;refine lFLb hb_5 ?_;refine go ?_;replace hst := hst.grow hg_4;refine wcb hm (fun hb hm => go ?_) fun hb hm => go ?_
 ·refine lFLb hb_5 ?_;refine go ?_;cases hm;exact ⟨rfl, rfl, hst.below⟩
 refine wcb hm (fun hb hm => go ?_) fun hb hm => go ?_
 ·refine lFLb hb_5 ?_;refine go ?_;cases hm;exact ⟨rfl, rfl, hst.below⟩
 refine wcb hm (fun hb hm => go ?_) fun hb hm => go ?_
 ·refine lFLb hb_5 ?_;refine go ?_;cases hm;exact ⟨rfl, rfl, hst.below⟩
 cases hm;exact ⟨rfl, rfl, hst.below⟩
def m_query_Text_J1 (v_19 : Bool) (v_20 : List Int) (v_24 : Int) (v_25 : Bool) (v_35 : Bool) : Option (ByteArray × Int) :=
  if v_35 = true then (some (⟨#[]⟩, 50)) else ((m_bstr ((v_19, v_20), v_24, v_25)).bind fun r_36 => some (r_36, 0))
def m_query_Text_J2 (kk_L1 : (Bool → (List Int) → Int → Bool → ByteArray → Bool → Bool → Option (ByteArray × Int))) (v_44 : Bool) (v_45 : List Int) (v_49 : Int) (v_50 : Bool) (used_51 : ByteArray) (pruned_52 : Bool) (pruned_53 : Bool) : Option (ByteArray × Int) :=
  kk_L1 v_44 v_45 v_49 v_50 used_51 pruned_52 pruned_53
def m_query_Text_L2 (N : Nat) (kk_L1 : (Bool → (List Int) → Int → Bool → ByteArray → Bool → Bool → Option (ByteArray × Int))) (x_29 : (Int × (List (ByteArray × ByteArray)) × (List (ByteArray × ByteArray)) × Int × (List ByteArray) × (Bool × Bool))) (used_104 : ByteArray) : List (ByteArray × ByteArray) → Bool → (List Int) → Int → Bool → Option (ByteArray × Int)
  | [], v_184, v_185, v_189, v_190 => m_query_Text_J2 kk_L1 v_184 v_185 v_189 v_190 used_104 x_29.2.2.2.2.2.1 x_29.2.2.2.2.2.2
  | x_191 :: l_192, v_184, v_185, v_189, v_190 => (m_query_writer_name N ((v_184, v_185), v_189, v_190) x_191.1).bind fun r_208 => chk ((⟨#[97, 108, 108, 32]⟩ : ByteArray).size + r_208.1.size ≤ maxLen) ((m_query_writer_pairs N ((r_208.2.1.1, r_208.2.1.2), r_208.2.2.1, r_208.2.2.2) (⟨#[32, 124, 32]⟩) x_29.2.2.1).bind fun r_219 => chk (((⟨#[97, 108, 108, 32]⟩ : ByteArray) ++ r_208.1).size + r_219.1.size ≤ maxLen) ((m_query_writer_command ((r_219.2.1.1, r_219.2.1.2), r_219.2.2.1, r_219.2.2.2) (((⟨#[97, 108, 108, 32]⟩ : ByteArray) ++ r_208.1) ++ r_219.1)).bind fun r_230 => (m_query_Text_L2 N kk_L1 x_29 used_104 l_192) r_230.1.1 r_230.1.2 r_230.2.1 r_230.2.2))
termination_by structural x => x
def m_query_Text_J6 (N : Nat) (kk_L1 : (Bool → (List Int) → Int → Bool → ByteArray → Bool → Bool → Option (ByteArray × Int))) (x_29 : (Int × (List (ByteArray × ByteArray)) × (List (ByteArray × ByteArray)) × Int × (List ByteArray) × (Bool × Bool))) (used_104 : ByteArray) (v_116 : Bool) (v_117 : List Int) (v_121 : Int) (v_122 : Bool) : Option (ByteArray × Int) :=
  if (decide (x_29.1 = 1)) = true then ((m_query_writer_pairs N ((v_116, v_117), v_121, v_122) (⟨#[32]⟩) x_29.2.1).bind fun r_127 => chk ((⟨#[99, 104, 97, 110, 99, 101]⟩ : ByteArray).size + r_127.1.size ≤ maxLen) ((m_query_writer_command ((r_127.2.1.1, r_127.2.1.2), r_127.2.2.1, r_127.2.2.2) ((⟨#[99, 104, 97, 110, 99, 101]⟩ : ByteArray) ++ r_127.1)).bind fun r_137 => m_query_Text_J2 kk_L1 r_137.1.1 r_137.1.2 r_137.2.1 r_137.2.2 used_104 x_29.2.2.2.2.2.1 x_29.2.2.2.2.2.2)) else (if (decide (x_29.1 = 2)) = true then ((m_query_writer_pairs N ((v_116, v_117), v_121, v_122) (⟨#[32]⟩) x_29.2.1).bind fun r_148 => chk ((⟨#[97, 115, 107]⟩ : ByteArray).size + r_148.1.size ≤ maxLen) ((m_query_writer_pairs N ((r_148.2.1.1, r_148.2.1.2), r_148.2.2.1, r_148.2.2.2) (⟨#[32, 124, 32]⟩) x_29.2.2.1).bind fun r_159 => chk (((⟨#[97, 115, 107]⟩ : ByteArray) ++ r_148.1).size + r_159.1.size ≤ maxLen) ((m_query_writer_command ((r_159.2.1.1, r_159.2.1.2), r_159.2.2.1, r_159.2.2.2) (((⟨#[97, 115, 107]⟩ : ByteArray) ++ r_148.1) ++ r_159.1)).bind fun r_170 => m_query_Text_J2 kk_L1 r_170.1.1 r_170.1.2 r_170.2.1 r_170.2.2 used_104 x_29.2.2.2.2.2.1 x_29.2.2.2.2.2.2))) else (if (decide (x_29.1 = 3)) = true then (m_query_Text_L2 N kk_L1 x_29 used_104 x_29.2.1 v_116 v_117 v_121 v_122) else (m_query_Text_J2 kk_L1 v_116 v_117 v_121 v_122 used_104 x_29.2.2.2.2.2.1 x_29.2.2.2.2.2.2)))
def m_query_Text_J5 (N : Nat) (pruned_28 : Bool) (kk_L1 : (Bool → (List Int) → Int → Bool → ByteArray → Bool → Bool → Option (ByteArray × Int))) (x_29 : (Int × (List (ByteArray × ByteArray)) × (List (ByteArray × ByteArray)) × Int × (List ByteArray) × (Bool × Bool))) (used_104 : ByteArray) (v_107 : Bool) (v_108 : List Int) (v_112 : Int) (v_113 : Bool) : Option (ByteArray × Int) :=
  if (!decide (x_29.2.2.2.2.2.2 = pruned_28)) = true then (chk ((⟨#[112, 114, 117, 110, 101, 32]⟩ : ByteArray).size + (⟨#[97, 112, 97, 114, 116]⟩ : ByteArray).size ≤ maxLen) (chk (((⟨#[112, 114, 117, 110, 101, 32]⟩ : ByteArray) ++ (⟨#[97, 112, 97, 114, 116]⟩)).size + (⟨#[32]⟩ : ByteArray).size ≤ maxLen) ((some (mput ([] : List (Bool × ByteArray)) true (⟨#[111, 110]⟩))).bind fun es_252 => (some (mput es_252 false (⟨#[111, 102, 102]⟩))).bind fun es_258 => chk ((((⟨#[112, 114, 117, 110, 101, 32]⟩ : ByteArray) ++ (⟨#[97, 112, 97, 114, 116]⟩)) ++ (⟨#[32]⟩)).size + ((mget es_258 x_29.2.2.2.2.2.2).getD (⟨#[]⟩)).size ≤ maxLen) ((m_query_writer_command ((v_107, v_108), v_112, v_113) ((((⟨#[112, 114, 117, 110, 101, 32]⟩ : ByteArray) ++ (⟨#[97, 112, 97, 114, 116]⟩)) ++ (⟨#[32]⟩)) ++ ((mget es_258 x_29.2.2.2.2.2.2).getD (⟨#[]⟩)))).bind fun r_261 => m_query_Text_J6 N kk_L1 x_29 used_104 r_261.1.1 r_261.1.2 r_261.2.1 r_261.2.2)))) else (m_query_Text_J6 N kk_L1 x_29 used_104 v_107 v_108 v_112 v_113)
def m_query_Text_J4 (N : Nat) (pruned_27 : Bool) (pruned_28 : Bool) (kk_L1 : (Bool → (List Int) → Int → Bool → ByteArray → Bool → Bool → Option (ByteArray × Int))) (x_29 : (Int × (List (ByteArray × ByteArray)) × (List (ByteArray × ByteArray)) × Int × (List ByteArray) × (Bool × Bool))) (v_97 : Bool) (v_98 : List Int) (v_102 : Int) (v_103 : Bool) (used_104 : ByteArray) : Option (ByteArray × Int) :=
  if (!decide (x_29.2.2.2.2.2.1 = pruned_27)) = true then (chk ((⟨#[112, 114, 117, 110, 101, 32]⟩ : ByteArray).size + (⟨#[98, 97, 114, 114, 101, 110]⟩ : ByteArray).size ≤ maxLen) (chk (((⟨#[112, 114, 117, 110, 101, 32]⟩ : ByteArray) ++ (⟨#[98, 97, 114, 114, 101, 110]⟩)).size + (⟨#[32]⟩ : ByteArray).size ≤ maxLen) ((some (mput ([] : List (Bool × ByteArray)) true (⟨#[111, 110]⟩))).bind fun es_282 => (some (mput es_282 false (⟨#[111, 102, 102]⟩))).bind fun es_288 => chk ((((⟨#[112, 114, 117, 110, 101, 32]⟩ : ByteArray) ++ (⟨#[98, 97, 114, 114, 101, 110]⟩)) ++ (⟨#[32]⟩)).size + ((mget es_288 x_29.2.2.2.2.2.1).getD (⟨#[]⟩)).size ≤ maxLen) ((m_query_writer_command ((v_97, v_98), v_102, v_103) ((((⟨#[112, 114, 117, 110, 101, 32]⟩ : ByteArray) ++ (⟨#[98, 97, 114, 114, 101, 110]⟩)) ++ (⟨#[32]⟩)) ++ ((mget es_288 x_29.2.2.2.2.2.1).getD (⟨#[]⟩)))).bind fun r_291 => m_query_Text_J5 N pruned_28 kk_L1 x_29 used_104 r_291.1.1 r_291.1.2 r_291.2.1 r_291.2.2)))) else (m_query_Text_J5 N pruned_28 kk_L1 x_29 used_104 v_97 v_98 v_102 v_103)
def m_query_Text_J3 (N : Nat) (used_26 : ByteArray) (pruned_27 : Bool) (pruned_28 : Bool) (kk_L1 : (Bool → (List Int) → Int → Bool → ByteArray → Bool → Bool → Option (ByteArray × Int))) (x_29 : (Int × (List (ByteArray × ByteArray)) × (List (ByteArray × ByteArray)) × Int × (List ByteArray) × (Bool × Bool))) (v_88 : Bool) (v_89 : List Int) (v_93 : Int) (v_94 : Bool) : Option (ByteArray × Int) :=
  (m_query_writer_uses N ((v_88, v_89), v_93, v_94) (x_29.1, x_29.2.1, x_29.2.2.1, x_29.2.2.2.1, x_29.2.2.2.2.1, (x_29.2.2.2.2.2.1, x_29.2.2.2.2.2.2))).bind fun r_300 => if (!decide (r_300.1 = used_26)) = true then ((m_query_writer_command ((r_300.2.1.1, r_300.2.1.2), r_300.2.2.1, r_300.2.2.2) r_300.1).bind fun r_309 => m_query_Text_J4 N pruned_27 pruned_28 kk_L1 x_29 r_309.1.1 r_309.1.2 r_309.2.1 r_309.2.2 r_300.1) else (m_query_Text_J4 N pruned_27 pruned_28 kk_L1 x_29 r_300.2.1.1 r_300.2.1.2 r_300.2.2.1 r_300.2.2.2 used_26)
def m_query_Text_L1 (N : Nat) : List (Int × (List (ByteArray × ByteArray)) × (List (ByteArray × ByteArray)) × Int × (List ByteArray) × (Bool × Bool)) → Bool → (List Int) → Int → Bool → ByteArray → Bool → Bool → Option (ByteArray × Int)
  | [], v_19, v_20, v_24, v_25, used_26, pruned_27, pruned_28 => if v_25 = true then (m_query_Text_J1 v_19 v_20 v_24 v_25 true) else (m_query_Text_J1 v_19 v_20 v_24 v_25 (decide (4096 < v_24)))
  | x_29 :: l_30, v_19, v_20, v_24, v_25, used_26, pruned_27, pruned_28 => if v_25 = true then (m_query_Text_J3 N used_26 pruned_27 pruned_28 (m_query_Text_L1 N l_30) x_29 v_19 v_20 v_24 true) else ((m_query_fits (x_29.1, x_29.2.1, x_29.2.2.1, x_29.2.2.2.1, x_29.2.2.2.2.1, (x_29.2.2.2.2.2.1, x_29.2.2.2.2.2.2))).bind fun r_323 => m_query_Text_J3 N used_26 pruned_27 pruned_28 (m_query_Text_L1 N l_30) x_29 v_19 v_20 v_24 (!r_323))
termination_by structural x => x
def m_query_Text (N : Nat) (p0_l : (List (Int × (List (ByteArray × ByteArray)) × (List (ByteArray × ByteArray)) × Int × (List ByteArray) × (Bool × Bool)))) : Option (ByteArray × Int) :=
  m_query_Text_L1 N p0_l false ([] : List Int) 0 false (⟨#[117, 115, 101, 32, 102, 105, 108, 108]⟩) false false
theorem c_query_Text {N cap0 : Nat} {a0 : Option Addr} {col : Col} {w0 : World} {p0_l : (List (Int × (List (ByteArray × ByteArray)) × (List (ByteArray × ByteArray)) × Int × (List ByteArray) × (Bool × Bool)))} {r : (ByteArray × Int)} (hm : m_query_Text N p0_l = some r) (h0 : Sl (Rep.pair (Rep.int .i8) (Rep.pair (Rep.slice (Rep.pair Rep.str Rep.str)) (Rep.pair (Rep.slice (Rep.pair Rep.str Rep.str)) (Rep.pair (Rep.int .i8) (Rep.pair (Rep.slice Rep.str) (Rep.pair Rep.bool Rep.bool)))))) col w0 a0 cap0 p0_l) :
    Calls Try.prog 7 #[(.slice a0 p0_l.length cap0)] w0 (fun e w' => e = .returned (.tuple #[(.string r.1), (.int .i64 r.2)]) ∧ Below w0.heap.size w0 w') := by
 refine calls_of2 2 3 (m := 136) (args := [(.slice a0 p0_l.length cap0)]) Try.func7 rfl rfl rfl rfl rfl ?_;rw [m_query_Text.eq_1] at hm;have hst := St.start col w0;refine go ?_;refine l_allocA (col := (col0 col)) #[(.pointer none), (nI), (.int .i64 0), (.bool false)] 1 Try.zeroValue49 ?_;intro g_1 w_2 col_3 hg_4 hb_5;refine go ?_;refine lV (.agg #[(.bool false), (.bool false)]) (r_buildA Try.underlying30 Try.sizeOf4 Try.zeroValue30 rfl) <| l_allocA (col := col_3) #[(.bool false), (.bool false)] 2 Try.zeroValue30 ?_;intro g_6 w_7 col_8 hg_9 hb_10;refine lAT rfl <| l_bsA hb_10 ?_;intro w_11 hk_12 hs_13 hb_14;refine go ?_;replace hst := ((hst.grow hg_4).grow hg_9).kp hk_12 hs_13;replace hb_5 := (hb_5.gr hg_9).kp hk_12;refine wloopK [16, 17, 4, 6, 1000000] (fun n f w_17 => ∃ col_18 k_15 v_19 a_21 cap_22 v_20 v_24 v_25 used_26 pruned_27 pruned_28 l_16, n = l_16.length ∧ p0_l.drop k_15 = l_16 ∧ m_query_Text_L1 N l_16 v_19 v_20 v_24 v_25 used_26 pruned_27 pruned_28 = some r ∧ St w0 (col0 col) col_18 w_17 ∧ Own (Rep.int .u8) 5 3 col_18 w_17 a_21 cap_22 v_20 ∧ Box 49 1 col_18 w_17 g_1 #[(.pointer (bif v_19 then some ⟨g_1, 0, none⟩ else none)), (.slice a_21 v_20.length cap_22), (.int .i64 v_24), (.bool v_25)] ∧ Box 30 2 col_18 w_17 g_6 #[(.bool pruned_27), (.bool pruned_28)] ∧ [18, 5].map f = [.int .i64 (k_15 : Int), .string used_26]) p0_l.length ⟨_, 0, _, none, 0, _, 0, _, _, _, _, _, rfl, rfl, hm, hst, Own.nil, hb_5, hb_14, rfl⟩ ?_;clear hm; intro n f w_17 hI;obtain ⟨col_18, k_15, v_19, a_21, cap_22, v_20, v_24, v_25, used_26, pruned_27, pruned_28, l_16, hn, hl, hm, hst, h_23, hb_5, hb_14, hs⟩ := hI;subst hn;refine .lL [18, 5] hs ?_;replace h0 := h0.k0
 cases l_16 with
 | nil =>
  have hk : ¬ ((k_15 : Int) < (p0_l.length : Int)) := by have := List.drop_eq_nil_iff.1 hl; omega
  have hkb := decide_eq_false hk;rw [m_query_Text_L1.eq_1] at hm;refine go ?_;refine wcondF (congrArg Value.bool hkb) ?_;refine wexit (inB_hit ?_);refine wseq <| wseq ?_;refine Wp.cutK [4, 1000000] (fun f w_33 => ∃ col_34 v_35, m_query_Text_J1 v_19 v_20 v_24 v_25 v_35 = some r ∧ St w0 (col0 col) col_34 w_33 ∧ Own (Rep.int .u8) 5 3 col_34 w_33 a_21 cap_22 v_20 ∧ Box 49 1 col_34 w_33 g_1 #[(.pointer (bif v_19 then some ⟨g_1, 0, none⟩ else none)), (.slice a_21 v_20.length cap_22), (.int .i64 v_24), (.bool v_25)] ∧ [131].map f = [.bool v_35]) ?_ ?_
  ·intro f w_33 hJ;obtain ⟨col_34, v_35, hm, hst, h_23, hb_5, hs⟩ := hJ;rw [m_query_Text_J1.eq_1] at hm;refine .lL [131] hs ?_;refine wcb hm (fun hb hm => go ?_) fun hb hm => go ?_
   ·cases hm;exact ⟨rfl, rfl, hst.below⟩
   refine lV (.pointer (some ⟨g_1, 0, none⟩)) (r_nilCheck rfl) <| lFa ⟨_, _, rfl⟩ ?_;obtain ⟨r_36, hr_37, hm⟩ := bZ hm;refine lcA (c_strings_Builder_String_v0e49 col_34 _ 1 3 rfl g_1 ((v_19, v_20), v_24, v_25) a_21 cap_22 h_23 hb_5 r_36 hr_37) ?_;rintro _ w_38 ⟨col_40, rfl, hg_39⟩;refine ⟨_, rfl, go ?_⟩;cases hm;replace hst := hst.kpp hg_39;exact ⟨rfl, rfl, hst.below⟩
  refine go ?_;refine lV (.pointer (some ⟨g_1, 0, none⟩)) (r_nilCheck rfl) <| lFLb hb_5 <| lMB rfl ?_;refine bcb hm (fun hg_41 hm => go ?_) fun hg_41 hm => go ?_
  ·refine lV (.bool true) (r_pickT (congrArg Value.bool hg_41) rfl) <| lnil ?_;exact ⟨rfl, _, _, hm, hst, h_23, hb_5, rfl⟩
  refine lV (.pointer (some ⟨g_1, 0, none⟩)) (r_nilCheck rfl) <| go ?_;refine lFa ⟨_, _, rfl⟩ ?_;refine go ?_;refine lW ((hb_5.atN).nth (q := 2) rfl) <| go ?_;refine lV (.bool (decide (4096 < v_24))) (r_pickF (congrArg Value.bool hg_41) rfl) <| lnil ?_;exact ⟨rfl, _, _, hm, hst, h_23, hb_5, rfl⟩
 | cons x_29 l_30 =>
  obtain ⟨hat, hl2_L1, hlt_L1⟩ := drop_get hl;have hk : (k_15 : Int) < (p0_l.length : Int) := by omega
  have hkb := decide_eq_true hk;rw [m_query_Text_L1.eq_2] at hm;refine go ?_;refine wcondT (congrArg Value.bool hkb) <| wskip <| wseq ?_;refine Wp.cutK [16, 17, 18, 4, 6, 1000000] (fun f w_42 => ∃ col_43 v_44 a_46 cap_47 v_45 v_49 v_50 used_51 pruned_52 pruned_53, m_query_Text_J2 (m_query_Text_L1 N l_30) v_44 v_45 v_49 v_50 used_51 pruned_52 pruned_53 = some r ∧ St w0 (col0 col) col_43 w_42 ∧ Own (Rep.int .u8) 5 3 col_43 w_42 a_46 cap_47 v_45 ∧ Box 49 1 col_43 w_42 g_1 #[(.pointer (bif v_44 then some ⟨g_1, 0, none⟩ else none)), (.slice a_46 v_45.length cap_47), (.int .i64 v_49), (.bool v_50)] ∧ Box 30 2 col_43 w_42 g_6 #[(.bool pruned_52), (.bool pruned_53)] ∧ [5].map f = [.string used_51]) ?_ ?_
  ·intro f w_42 hJ;obtain ⟨col_43, v_44, a_46, cap_47, v_45, v_49, v_50, used_51, pruned_52, pruned_53, hm, hst, h_48, hb_5, hb_14, hs⟩ := hJ;rw [m_query_Text_J2.eq_1] at hm;refine .lL [5] hs <| go ?_;exact ⟨l_30.length, by simp, rfl, ⟨_, _, _, _, _, _, _, _, _, _, _, _, rfl, hl2_L1, hm, hst, h_48, hb_5, hb_14, (eqc (congrArg (Value.int .i64) (wrap_succ (Nat.lt_of_lt_of_le hlt_L1 (h0.ks hst).1.1))) rfl)⟩⟩
  refine go ?_;refine lI hat ((h0.ks hst).addr hat) ?_;obtain ⟨_, hr_54, hA_55⟩ := (h0.ks hst).atN hat;obtain ⟨_, _, rfl, hp_56, hp_57⟩ := rd_pair hr_54;obtain ⟨rfl, _⟩ := hp_56;obtain ⟨_, _, rfl, hp_58, hp_59⟩ := rd_pair hp_57;obtain ⟨⟨a_60, cap_61, rfl, h_62⟩, _⟩ := hp_58;obtain ⟨_, _, rfl, hp_63, hp_64⟩ := rd_pair hp_59;obtain ⟨⟨a_65, cap_66, rfl, h_67⟩, _⟩ := hp_63;obtain ⟨_, _, rfl, hp_68, hp_69⟩ := rd_pair hp_64;obtain ⟨rfl, _⟩ := hp_68;obtain ⟨_, _, rfl, hp_70, hp_71⟩ := rd_pair hp_69;obtain ⟨⟨a_72, cap_73, rfl, h_74⟩, _⟩ := hp_70;obtain ⟨_, _, rfl, hp_75, hp_76⟩ := rd_pair hp_71;obtain ⟨rfl, _⟩ := hp_75;obtain ⟨rfl, _⟩ := hp_76;refine lV (.agg #[(.int .i8 x_29.1), (.slice a_60 x_29.2.1.length cap_61), (.slice a_65 x_29.2.2.1.length cap_66), (.int .i8 x_29.2.2.2.1), (.slice a_72 x_29.2.2.2.2.1.length cap_73), (.bool x_29.2.2.2.2.2.1), (.bool x_29.2.2.2.2.2.2)]) (r_ldN Try.isAgg32 Try.sizeOf32 rfl rfl hA_55) <| l_allocA (col := col_18) #[(.int .i8 0), (.slice none (([] : List (ByteArray × ByteArray)).length) 0), (.slice none (([] : List (ByteArray × ByteArray)).length) 0), (.int .i8 0), (.slice none (([] : List ByteArray).length) 0), (.bool false), (.bool false)] 4 Try.zeroValue32 ?_;intro g_77 w_78 col_79 hg_80 hb_81;refine l_bsA hb_81 ?_;intro w_82 hk_83 hs_84 hb_85;refine lnil <| wseq ?_;replace h_23 := (h_23.gr hg_80).kp hk_83;replace h_62 := (h_62.gr hg_80).kp hk_83;replace h_67 := (h_67.gr hg_80).kp hk_83;replace h_74 := (h_74.gr hg_80).kp hk_83;replace hb_5 := (hb_5.gr hg_80).kp hk_83;replace hb_14 := (hb_14.gr hg_80).kp hk_83;replace hst := (hst.grow hg_80).kp hk_83 hs_84;refine Wp.cutK [16, 17, 18, 4, 5, 6, 8, 1000000] (fun f w_86 => ∃ col_87 v_88 a_90 cap_91 v_89 v_93 v_94, m_query_Text_J3 N used_26 pruned_27 pruned_28 (m_query_Text_L1 N l_30) x_29 v_88 v_89 v_93 v_94 = some r ∧ St w0 (col0 col) col_87 w_86 ∧ Own (Rep.int .u8) 5 3 col_87 w_86 a_90 cap_91 v_89 ∧ Box 49 1 col_87 w_86 g_1 #[(.pointer (bif v_88 then some ⟨g_1, 0, none⟩ else none)), (.slice a_90 v_89.length cap_91), (.int .i64 v_93), (.bool v_94)] ∧ Box 30 2 col_87 w_86 g_6 #[(.bool pruned_27), (.bool pruned_28)] ∧ Sl (Rep.pair Rep.str Rep.str) col_87 w_86 a_60 cap_61 x_29.2.1 ∧ Sl (Rep.pair Rep.str Rep.str) col_87 w_86 a_65 cap_66 x_29.2.2.1 ∧ Sl Rep.str col_87 w_86 a_72 cap_73 x_29.2.2.2.2.1 ∧ Box 32 4 col_87 w_86 g_77 #[(.int .i8 x_29.1), (.slice a_60 x_29.2.1.length cap_61), (.slice a_65 x_29.2.2.1.length cap_66), (.int .i8 x_29.2.2.2.1), (.slice a_72 x_29.2.2.2.2.1.length cap_73), (.bool x_29.2.2.2.2.2.1), (.bool x_29.2.2.2.2.2.2)]) ?_ ?_
  ·intro f w_86 hJ;obtain ⟨col_87, v_88, a_90, cap_91, v_89, v_93, v_94, hm, hst, h_92, hb_5, hb_14, h_62, h_67, h_74, hb_85⟩ := hJ;rw [m_query_Text_J3.eq_1] at hm;refine wseq ?_;refine Wp.cutK [16, 17, 18, 4, 6, 8, 1000000] (fun f w_95 => ∃ col_96 v_97 a_99 cap_100 v_98 v_102 v_103 used_104, m_query_Text_J4 N pruned_27 pruned_28 (m_query_Text_L1 N l_30) x_29 v_97 v_98 v_102 v_103 used_104 = some r ∧ St w0 (col0 col) col_96 w_95 ∧ Own (Rep.int .u8) 5 3 col_96 w_95 a_99 cap_100 v_98 ∧ Box 49 1 col_96 w_95 g_1 #[(.pointer (bif v_97 then some ⟨g_1, 0, none⟩ else none)), (.slice a_99 v_98.length cap_100), (.int .i64 v_102), (.bool v_103)] ∧ Box 30 2 col_96 w_95 g_6 #[(.bool pruned_27), (.bool pruned_28)] ∧ Sl (Rep.pair Rep.str Rep.str) col_96 w_95 a_60 cap_61 x_29.2.1 ∧ Sl (Rep.pair Rep.str Rep.str) col_96 w_95 a_65 cap_66 x_29.2.2.1 ∧ Sl Rep.str col_96 w_95 a_72 cap_73 x_29.2.2.2.2.1 ∧ Box 32 4 col_96 w_95 g_77 #[(.int .i8 x_29.1), (.slice a_60 x_29.2.1.length cap_61), (.slice a_65 x_29.2.2.1.length cap_66), (.int .i8 x_29.2.2.2.1), (.slice a_72 x_29.2.2.2.2.1.length cap_73), (.bool x_29.2.2.2.2.2.1), (.bool x_29.2.2.2.2.2.2)] ∧ [5].map f = [.string used_104]) ?_ ?_
   ·intro f w_95 hJ;obtain ⟨col_96, v_97, a_99, cap_100, v_98, v_102, v_103, used_104, hm, hst, h_101, hb_5, hb_14, h_62, h_67, h_74, hb_85, hs⟩ := hJ;rw [m_query_Text_J4.eq_1] at hm;refine .lL [5] hs <| go ?_;refine lV (.agg #[(.string (⟨#[98, 97, 114, 114, 101, 110]⟩)), (.string (⟨#[97, 112, 97, 114, 116]⟩))]) (r_buildA Try.underlying51 Try.sizeOf9 Try.zeroValue51 rfl) <| go ?_;refine wloopR 3 <| wround <| go ?_;refine wcondT rfl <| wskip <| wseq ?_;refine Wp.cutK [16, 17, 18, 4, 44, 45, 5, 6, 8, 1000000] (fun f w_105 => ∃ col_106 v_107 a_109 cap_110 v_108 v_112 v_113, m_query_Text_J5 N pruned_28 (m_query_Text_L1 N l_30) x_29 used_104 v_107 v_108 v_112 v_113 = some r ∧ St w0 (col0 col) col_106 w_105 ∧ Own (Rep.int .u8) 5 3 col_106 w_105 a_109 cap_110 v_108 ∧ Box 49 1 col_106 w_105 g_1 #[(.pointer (bif v_107 then some ⟨g_1, 0, none⟩ else none)), (.slice a_109 v_108.length cap_110), (.int .i64 v_112), (.bool v_113)] ∧ Box 30 2 col_106 w_105 g_6 #[(.bool pruned_27), (.bool pruned_28)] ∧ Sl (Rep.pair Rep.str Rep.str) col_106 w_105 a_60 cap_61 x_29.2.1 ∧ Sl (Rep.pair Rep.str Rep.str) col_106 w_105 a_65 cap_66 x_29.2.2.1 ∧ Sl Rep.str col_106 w_105 a_72 cap_73 x_29.2.2.2.2.1 ∧ Box 32 4 col_106 w_105 g_77 #[(.int .i8 x_29.1), (.slice a_60 x_29.2.1.length cap_61), (.slice a_65 x_29.2.2.1.length cap_66), (.int .i8 x_29.2.2.2.1), (.slice a_72 x_29.2.2.2.2.1.length cap_73), (.bool x_29.2.2.2.2.2.1), (.bool x_29.2.2.2.2.2.2)]) ?_ ?_
    ·intro f w_105 hJ;obtain ⟨col_106, v_107, a_109, cap_110, v_108, v_112, v_113, hm, hst, h_111, hb_5, hb_14, h_62, h_67, h_74, hb_85⟩ := hJ;rw [m_query_Text_J5.eq_1] at hm;refine go ?_;refine wround <| go ?_;refine wcondT rfl <| wskip <| wseq ?_;refine Wp.cutK [16, 17, 18, 4, 44, 45, 5, 6, 8, 1000000] (fun f w_114 => ∃ col_115 v_116 a_118 cap_119 v_117 v_121 v_122, m_query_Text_J6 N (m_query_Text_L1 N l_30) x_29 used_104 v_116 v_117 v_121 v_122 = some r ∧ St w0 (col0 col) col_115 w_114 ∧ Own (Rep.int .u8) 5 3 col_115 w_114 a_118 cap_119 v_117 ∧ Box 49 1 col_115 w_114 g_1 #[(.pointer (bif v_116 then some ⟨g_1, 0, none⟩ else none)), (.slice a_118 v_117.length cap_119), (.int .i64 v_121), (.bool v_122)] ∧ Box 30 2 col_115 w_114 g_6 #[(.bool pruned_27), (.bool pruned_28)] ∧ Sl (Rep.pair Rep.str Rep.str) col_115 w_114 a_60 cap_61 x_29.2.1 ∧ Sl (Rep.pair Rep.str Rep.str) col_115 w_114 a_65 cap_66 x_29.2.2.1 ∧ Sl Rep.str col_115 w_114 a_72 cap_73 x_29.2.2.2.2.1 ∧ Box 32 4 col_115 w_114 g_77 #[(.int .i8 x_29.1), (.slice a_60 x_29.2.1.length cap_61), (.slice a_65 x_29.2.2.1.length cap_66), (.int .i8 x_29.2.2.2.1), (.slice a_72 x_29.2.2.2.2.1.length cap_73), (.bool x_29.2.2.2.2.2.1), (.bool x_29.2.2.2.2.2.2)]) ?_ ?_
     ·intro f w_114 hJ;obtain ⟨col_115, v_116, a_118, cap_119, v_117, v_121, v_122, hm, hst, h_120, hb_5, hb_14, h_62, h_67, h_74, hb_85⟩ := hJ;rw [m_query_Text_J6.eq_1] at hm;refine go ?_;refine wround <| go ?_;refine wcondF rfl <| go ?_;refine lFa ⟨_, _, rfl⟩ ?_;refine lV (.agg #[(.bool x_29.2.2.2.2.2.1), (.bool x_29.2.2.2.2.2.2)]) (r_ldN Try.isAgg30 Try.sizeOf30 rfl rfl ((hb_85.atN).part 5 2 _ rfl)) <| l_bsA hb_14 ?_;intro w_123 hk_124 hs_125 hb_126;refine go ?_;refine lFa ⟨_, _, rfl⟩ ?_;replace hb_85 := hb_85.kp hk_124;refine lW ((hb_85.atN).nth (q := 0) rfl) <| go ?_;replace h_120 := h_120.kp hk_124;replace h_62 := h_62.kp hk_124;replace h_67 := h_67.kp hk_124;replace h_74 := h_74.kp hk_124;replace hb_5 := hb_5.kp hk_124;replace hst := hst.kp hk_124 hs_125;refine wcb hm (fun hb hm => go ?_) fun hb hm => go ?_
      ·refine lFLb hb_85 ?_;obtain ⟨r_127, hr_128, hm⟩ := bZ hm;refine lcA (c_query_writer_pairs 1 3 hr_128 rfl h_120 hb_5 h_62) ?_;rintro _ w_133 ⟨col_135, oa_129, oc_130, rfl, hg_134, oh_131, ohb_132⟩;refine ⟨_, rfl, ?_⟩;obtain ⟨hb_136, hm⟩ := chk_some hm;refine lV (.string ((⟨#[99, 104, 97, 110, 99, 101]⟩ : ByteArray) ++ r_127.1)) (r_addS Try.underlying9 rfl rfl hb_136) ?_;obtain ⟨r_137, hr_138, hm⟩ := bZ hm;refine lcA (c_query_writer_command 1 3 hr_138 rfl oh_131 ohb_132) ?_;rintro _ w_143 ⟨col_145, oa_139, oc_140, rfl, hg_144, oh_141, ohb_142⟩;refine ⟨_, rfl, ?_⟩;refine lnil ?_;replace hb_126 := (hb_126.kpp hg_134).kpp hg_144;replace hst := (hst.kpp hg_134).kpp hg_144;exact ⟨rfl, _, _, _, _, _, _, _, _, _, _, hm, hst, oh_141, ohb_142, hb_126, rfl⟩
      refine wcb hm (fun hb hm => ?_) fun hb hm => go ?_
      ·refine wmixD (col := col_115) (pS [1, 3]) [(0, 1), (1, 1), (2, 1), (3, 0), (6, 1), (7, 1), (8, 5), (4, 4), (5, 1), (9, 2), (10, 1), (11, 2)] (by kernel_rfl) (by kernel_rfl) <| xuD (v := (.pointer (some ⟨g_1, 0, none⟩))) rfl rfl (fun _ => r_move rfl) ?_;refine xuD (v := (.pointer (some ⟨g_1, 0, none⟩))) rfl rfl (fun _ => r_move rfl) ?_;refine xuD (v := (.pointer ((some (⟨g_77, 0, none⟩ : Addr)).map (·.add 1)))) rfl rfl (fun _ => r_fieldAddr (sz := 1) (off := 1) Try.underlying32 rfl Try.sizeOf28 (by decide) rfl rfl ⟨_, _, rfl⟩) ?_;refine xvD (v := (.slice a_60 x_29.2.1.length cap_61)) rfl rfl (fun _ hC => r_ld Try.isAgg28 rfl (((hb_85.atN).nth (q := 1) (v := (.slice a_60 x_29.2.1.length cap_61)) rfl).gr (hC.bl col_115))) ?_;refine xuD (v := (.pointer (some ⟨g_1, 0, none⟩))) rfl rfl (fun _ => r_move rfl) ?_;refine xuD (v := (.pointer ((some (⟨g_77, 0, none⟩ : Addr)).map (·.add 2)))) rfl rfl (fun _ => r_fieldAddr (sz := 1) (off := 2) Try.underlying32 rfl Try.sizeOf28 (by decide) rfl rfl ⟨_, _, rfl⟩) ?_;refine xsD (v := (.slice a_65 x_29.2.2.1.length cap_66)) rfl rfl (fun _ hC => r_ld Try.isAgg28 rfl (((hb_85.dk hC rfl rfl).atN).nth (q := 2) (v := (.slice a_65 x_29.2.2.1.length cap_66)) rfl)) ?_;refine xeD rfl rfl ?_;intro w_146 hC0;have hC := hC0.bl col_115;replace h_120 := h_120.gr hC;replace h_62 := h_62.gr hC;replace h_67 := h_67.gr hC;replace hb_5 := hb_5.gr hC;replace hb_126 := hb_126.gr hC;replace hst := hst.grow hC;have hkd_147 : KeepP (pS [1, 3]) col_115 w_123 col_115 w_146 := hC.toP;obtain ⟨r_148, hr_149, hm⟩ := bZ hm;refine lcA (c_query_writer_pairs 1 3 hr_149 rfl h_120 hb_5 h_62) ?_;rintro _ w_154 ⟨col_156, oa_150, oc_151, rfl, hg_155, oh_152, ohb_153⟩;refine ⟨_, rfl, ?_⟩;replace h_67 := h_67.kpp hg_155;replace hb_126 := hb_126.kpp hg_155;replace hkd_147 := hkd_147.trans (hg_155.mono (by first | exact pS_p2 rfl | exact pS_p1 rfl | exact pS_pS rfl));refine lnil ?_;refine ⟨fun w' => Grow col_156 w_154 col_156 w', fun w' => ∃ c', KeepP (pS [1, 3]) col_156 w_154 c' w', Grow.refl _ _, fun _ h => ⟨_, h.toP⟩, fun h => absurd h (by decide), fun _ _ ⟨c9, h⟩ => ⟨c9, hkd_147.trans h⟩, ?_⟩;obtain ⟨hb_157, hm⟩ := chk_some hm;refine xuD (v := (.string ((⟨#[97, 115, 107]⟩ : ByteArray) ++ r_148.1))) rfl rfl (fun _ => r_addS Try.underlying9 rfl rfl hb_157) ?_;refine xeD rfl rfl ?_;intro w_158 hC0;have hC := hC0.bl col_156;obtain ⟨r_159, hr_160, hm⟩ := bZ hm;replace oh_152 := oh_152.gr hC;replace h_67 := h_67.gr hC;replace ohb_153 := ohb_153.gr hC;refine lcA (c_query_writer_pairs 1 3 hr_160 rfl oh_152 ohb_153 h_67) ?_;rintro _ w_165 ⟨col_167, oa_161, oc_162, rfl, hg_166, oh_163, ohb_164⟩;refine ⟨_, rfl, ?_⟩;refine lnil ?_
       refine ⟨fun w' => Grow col_167 w_165 col_167 w', fun w' => ∃ c', KeepP (pS [1, 3]) col_167 w_165 c' w', Grow.refl _ _, fun _ h => ⟨_, h.toP⟩, fun h => absurd h (by decide), fun h => absurd h (by decide), ?_⟩;obtain ⟨hb_168, hm⟩ := chk_some hm;refine xuD (v := (.string (((⟨#[97, 115, 107]⟩ : ByteArray) ++ r_148.1) ++ r_159.1))) rfl rfl (fun _ => r_addS Try.underlying9 rfl rfl hb_168) ?_;refine xeD rfl rfl ?_;intro w_169 hC0;replace hst := ((hst.kpp hg_155).grow hC).kpp hg_166;replace hb_126 := (hb_126.gr hC).kpp hg_166;have hC := hC0.bl col_167;obtain ⟨r_170, hr_171, hm⟩ := bZ hm;replace oh_163 := oh_163.gr hC;replace ohb_164 := ohb_164.gr hC;refine lcA (c_query_writer_command 1 3 hr_171 rfl oh_163 ohb_164) ?_;rintro _ w_176 ⟨col_178, oa_172, oc_173, rfl, hg_177, oh_174, ohb_175⟩;refine ⟨_, rfl, ?_⟩;refine lnil ?_;refine ⟨fun w' => Grow col_178 w_176 col_178 w', fun w' => ∃ c', KeepP (pS [1, 3]) col_178 w_176 c' w', Grow.refl _ _, fun _ h => ⟨_, h.toP⟩, fun h => absurd h (by decide), fun h => absurd h (by decide), ?_⟩;refine xnilD ?_;replace hb_126 := (hb_126.gr hC).kpp hg_177;replace hst := (hst.grow hC).kpp hg_177;intro w_179 hC;replace hC := hC.bl col_178;replace oh_174 := oh_174.gr hC;replace ohb_175 := ohb_175.gr hC;replace hb_126 := hb_126.gr hC;replace hst := hst.grow hC;exact ⟨rfl, _, _, _, _, _, _, _, _, _, _, hm, hst, oh_174, ohb_175, hb_126, rfl⟩
      refine wcb hm (fun hb hm => go ?_) fun hb hm => ?_
      ·refine lFLb hb_85 ?_;refine go ?_;refine wloopK [101, 102, 16, 17, 18, 4, 5, 6, 8, 1000000] (fun n f w_182 => ∃ col_183 k_180 v_184 a_186 cap_187 v_185 v_189 v_190 l_181, n = l_181.length ∧ x_29.2.1.drop k_180 = l_181 ∧ m_query_Text_L2 N (m_query_Text_L1 N l_30) x_29 used_104 l_181 v_184 v_185 v_189 v_190 = some r ∧ St w0 (col0 col) col_183 w_182 ∧ Sl (Rep.pair Rep.str Rep.str) col_183 w_182 a_60 cap_61 x_29.2.1 ∧ Own (Rep.int .u8) 5 3 col_183 w_182 a_186 cap_187 v_185 ∧ Box 49 1 col_183 w_182 g_1 #[(.pointer (bif v_184 then some ⟨g_1, 0, none⟩ else none)), (.slice a_186 v_185.length cap_187), (.int .i64 v_189), (.bool v_190)] ∧ Box 30 2 col_183 w_182 g_6 #[(.bool x_29.2.2.2.2.2.1), (.bool x_29.2.2.2.2.2.2)] ∧ Sl (Rep.pair Rep.str Rep.str) col_183 w_182 a_65 cap_66 x_29.2.2.1 ∧ Sl Rep.str col_183 w_182 a_72 cap_73 x_29.2.2.2.2.1 ∧ Box 32 4 col_183 w_182 g_77 #[(.int .i8 x_29.1), (.slice a_60 x_29.2.1.length cap_61), (.slice a_65 x_29.2.2.1.length cap_66), (.int .i8 x_29.2.2.2.1), (.slice a_72 x_29.2.2.2.2.1.length cap_73), (.bool x_29.2.2.2.2.2.1), (.bool x_29.2.2.2.2.2.2)] ∧ [103].map f = [.int .i64 (k_180 : Int)]) x_29.2.1.length ⟨_, 0, _, _, _, _, _, _, _, rfl, rfl, hm, hst, h_62, h_120, hb_5, hb_126, h_67, h_74, hb_85, rfl⟩ ?_;clear hm; intro n f w_182 hI;obtain ⟨col_183, k_180, v_184, a_186, cap_187, v_185, v_189, v_190, l_181, hn, hl, hm, hst, h_62, h_188, hb_5, hb_126, h_67, h_74, hb_85, hs⟩ := hI;subst hn;refine .lL [103] hs ?_
       cases l_181 with
       | nil =>
        have hk : ¬ ((k_180 : Int) < (x_29.2.1.length : Int)) := by have := List.drop_eq_nil_iff.1 hl; omega
        have hkb := decide_eq_false hk;rw [m_query_Text_L2.eq_1] at hm;refine go ?_;refine wcondF (congrArg Value.bool hkb) <| go ?_;exact ⟨rfl, _, _, _, _, _, _, _, _, _, _, hm, hst, h_188, hb_5, hb_126, rfl⟩
       | cons x_191 l_192 =>
        obtain ⟨hat, hl2_L2, hlt_L2⟩ := drop_get hl;have hk : (k_180 : Int) < (x_29.2.1.length : Int) := by omega
        have hkb := decide_eq_true hk;rw [m_query_Text_L2.eq_2] at hm;refine go ?_;refine wcondT (congrArg Value.bool hkb) <| go ?_;refine lI hat (h_62.addr hat) ?_;obtain ⟨_, hr_193, hA_194⟩ := h_62.atN hat;obtain ⟨_, _, rfl, hp_195, hp_196⟩ := rd_pair hr_193;obtain ⟨rfl, _⟩ := hp_195;obtain ⟨rfl, _⟩ := hp_196;refine lV (.agg #[(.string x_191.1), (.string x_191.2)]) (r_ldN Try.isAgg36 Try.sizeOf36 rfl rfl hA_194) <| l_allocA (col := col_183) #[(.string (⟨#[]⟩)), (.string (⟨#[]⟩))] 5 Try.zeroValue36 ?_;intro g_197 w_198 col_199 hg_200 hb_201;refine l_bsA hb_201 ?_;intro w_202 hk_203 hs_204 hb_205;refine lnil <| wmixD (col := col_199) (pS [1, 3]) [(0, 1), (1, 1), (2, 1), (3, 0), (6, 1), (7, 1), (8, 5), (4, 4), (5, 1), (9, 2), (10, 1), (11, 2)] (by kernel_rfl) (by kernel_rfl) <| xuD (v := (.pointer (some ⟨g_1, 0, none⟩))) rfl rfl (fun _ => r_move rfl) ?_;refine xuD (v := (.pointer (some ⟨g_1, 0, none⟩))) rfl rfl (fun _ => r_move rfl) ?_;refine xuD (v := (.pointer ((some (⟨g_197, 0, none⟩ : Addr)).map (·.add 0)))) rfl rfl (fun _ => r_fieldAddr (sz := 1) (off := 0) Try.underlying36 rfl Try.sizeOf9 (by decide) rfl rfl ⟨_, _, rfl⟩) ?_;refine xvD (v := (.string x_191.1)) rfl rfl (fun _ hC => r_ld Try.isAgg9 rfl (((hb_205.atN).nth (q := 0) (v := (.string x_191.1)) rfl).gr (hC.bl col_199))) ?_;refine xuD (v := (.pointer (some ⟨g_1, 0, none⟩))) rfl rfl (fun _ => r_move rfl) ?_;refine xuD (v := (.pointer ((some (⟨g_77, 0, none⟩ : Addr)).map (·.add 2)))) rfl rfl (fun _ => r_fieldAddr (sz := 1) (off := 2) Try.underlying32 rfl Try.sizeOf28 (by decide) rfl rfl ⟨_, _, rfl⟩) ?_;replace hb_85 := (hb_85.gr hg_200).kp hk_203;refine xsD (v := (.slice a_65 x_29.2.2.1.length cap_66)) rfl rfl (fun _ hC => r_ld Try.isAgg28 rfl (((hb_85.dk hC rfl rfl).atN).nth (q := 2) (v := (.slice a_65 x_29.2.2.1.length cap_66)) rfl)) ?_;refine xeD rfl rfl ?_;intro w_206 hC0;have hC := hC0.bl col_199;replace h_62 := ((h_62.gr hg_200).kp hk_203).gr hC;replace h_188 := ((h_188.gr hg_200).kp hk_203).gr hC;replace h_67 := ((h_67.gr hg_200).kp hk_203).gr hC;replace h_74 := ((h_74.gr hg_200).kp hk_203).gr hC;replace hb_5 := ((hb_5.gr hg_200).kp hk_203).gr hC;replace hb_126 := ((hb_126.gr hg_200).kp hk_203).gr hC;replace hst := ((hst.grow hg_200).kp hk_203 hs_204).grow hC;replace hb_85 := hb_85.gr hC;have hkd_207 : KeepP (pS [1, 3]) col_199 w_202 col_199 w_206 := hC.toP;obtain ⟨r_208, hr_209, hm⟩ := bZ hm;refine lcA (c_query_writer_name 1 3 hr_209 rfl h_188 hb_5) ?_;rintro _ w_214 ⟨col_216, oa_210, oc_211, rfl, hg_215, oh_212, ohb_213⟩;refine ⟨_, rfl, ?_⟩;replace h_62 := h_62.kpp hg_215;replace h_67 := h_67.kpp hg_215;replace h_74 := h_74.kpp hg_215;replace hb_126 := hb_126.kpp hg_215;replace hb_85 := hb_85.kpp hg_215;replace hkd_207 := hkd_207.trans (hg_215.mono (by first | exact pS_p2 rfl | exact pS_p1 rfl | exact pS_pS rfl));refine lnil ?_
        refine ⟨fun w' => Grow col_216 w_214 col_216 w', fun w' => ∃ c', KeepP (pS [1, 3]) col_216 w_214 c' w', Grow.refl _ _, fun _ h => ⟨_, h.toP⟩, fun h => absurd h (by decide), fun _ _ ⟨c9, h⟩ => ⟨c9, hkd_207.trans h⟩, ?_⟩;obtain ⟨hb_217, hm⟩ := chk_some hm;refine xuD (v := (.string ((⟨#[97, 108, 108, 32]⟩ : ByteArray) ++ r_208.1))) rfl rfl (fun _ => r_addS Try.underlying9 rfl rfl hb_217) ?_;refine xeD rfl rfl ?_;intro w_218 hC0;have hC := hC0.bl col_216;obtain ⟨r_219, hr_220, hm⟩ := bZ hm;replace oh_212 := oh_212.gr hC;replace h_67 := h_67.gr hC;replace ohb_213 := ohb_213.gr hC;refine lcA (c_query_writer_pairs 1 3 hr_220 rfl oh_212 ohb_213 h_67) ?_;rintro _ w_225 ⟨col_227, oa_221, oc_222, rfl, hg_226, oh_223, ohb_224⟩;refine ⟨_, rfl, ?_⟩;refine lnil ?_;refine ⟨fun w' => Grow col_227 w_225 col_227 w', fun w' => ∃ c', KeepP (pS [1, 3]) col_227 w_225 c' w', Grow.refl _ _, fun _ h => ⟨_, h.toP⟩, fun h => absurd h (by decide), fun h => absurd h (by decide), ?_⟩;obtain ⟨hb_228, hm⟩ := chk_some hm;refine xuD (v := (.string (((⟨#[97, 108, 108, 32]⟩ : ByteArray) ++ r_208.1) ++ r_219.1))) rfl rfl (fun _ => r_addS Try.underlying9 rfl rfl hb_228) ?_;refine xeD rfl rfl ?_;intro w_229 hC0;replace hst := ((hst.kpp hg_215).grow hC).kpp hg_226;replace h_62 := (h_62.gr hC).kpp hg_226;replace h_74 := (h_74.gr hC).kpp hg_226;replace hb_126 := (hb_126.gr hC).kpp hg_226;replace hb_85 := (hb_85.gr hC).kpp hg_226;have hC := hC0.bl col_227;obtain ⟨r_230, hr_231, hm⟩ := bZ hm;replace oh_223 := oh_223.gr hC;replace ohb_224 := ohb_224.gr hC;refine lcA (c_query_writer_command 1 3 hr_231 rfl oh_223 ohb_224) ?_;rintro _ w_236 ⟨col_238, oa_232, oc_233, rfl, hg_237, oh_234, ohb_235⟩;refine ⟨_, rfl, ?_⟩;refine lnil ?_;refine ⟨fun w' => Grow col_238 w_236 col_238 w', fun w' => ∃ c', KeepP (pS [1, 3]) col_238 w_236 c' w', Grow.refl _ _, fun _ h => ⟨_, h.toP⟩, fun h => absurd h (by decide), fun h => absurd h (by decide), ?_⟩;refine xnilD ?_;replace h_67 := ((h_67.kpp hg_226).gr hC).kpp hg_237;replace h_62 := (h_62.gr hC).kpp hg_237;replace h_74 := (h_74.gr hC).kpp hg_237;replace hb_126 := (hb_126.gr hC).kpp hg_237;replace hb_85 := (hb_85.gr hC).kpp hg_237;replace hst := (hst.grow hC).kpp hg_237;intro w_239 hC;replace hC := hC.bl col_238;refine go ?_;replace h_62 := h_62.gr hC;replace oh_234 := oh_234.gr hC;replace h_67 := h_67.gr hC;replace h_74 := h_74.gr hC;replace ohb_235 := ohb_235.gr hC;replace hb_126 := hb_126.gr hC;replace hb_85 := hb_85.gr hC;replace hst := hst.grow hC
        exact ⟨l_192.length, by simp, rfl, ⟨_, _, _, _, _, _, _, _, _, rfl, hl2_L2, hm, hst, h_62, oh_234, ohb_235, hb_126, h_67, h_74, hb_85, (eqc (congrArg (Value.int .i64) (wrap_succ (Nat.lt_of_lt_of_le hlt_L2 h_62.1.1))) rfl)⟩⟩
      refine wskip ?_;exact ⟨rfl, _, _, _, _, _, _, _, _, _, _, hm, hst, h_120, hb_5, hb_126, rfl⟩
     refine go ?_;refine lV (.string (⟨#[97, 112, 97, 114, 116]⟩)) (r_index (j := 1) Try.underlying51 Try.sizeOf9 Try.isAgg9 rfl rfl (by decide) (by decide) rfl) <| go ?_;refine wquiet (col := col_106) (by kernel_rfl) (by kernel_rfl) <| go ?_;refine qF ⟨_, _, rfl⟩ ?_;refine qv (v := (.pointer (((some (⟨g_77, 0, none⟩ : Addr)).map (·.add 5)).map (·.add 1)))) rfl (fun _ hC => r_idxA (sz := 1) (j := 1) Try.underlying30 Try.sizeOf4 rfl rfl (by decide) (by decide) (sptr_addr ⟨_, _, rfl⟩)) ?_;refine qW (fun _ hC => ((((hb_85.atN).part 5 2 _ rfl)).nth (q := 1) rfl).gr (hC.bl col_106)) ?_;refine go ?_;refine qv (v := (.pointer ((some (⟨g_6, 0, none⟩ : Addr)).map (·.add 1)))) rfl (fun _ hC => r_idxA (sz := 1) (j := 1) Try.underlying30 Try.sizeOf4 rfl rfl (by decide) (by decide) ⟨_, _, rfl⟩) ?_;refine qW (fun _ hC => ((hb_14.atN).nth (q := 1) rfl).gr (hC.bl col_106)) ?_;refine go ?_;refine qnil ?_;intro w_240 hC;replace hC := hC.bl col_106;replace h_111 := h_111.gr hC;replace h_62 := h_62.gr hC;replace h_67 := h_67.gr hC;replace h_74 := h_74.gr hC;replace hb_5 := hb_5.gr hC;replace hb_14 := hb_14.gr hC;replace hb_85 := hb_85.gr hC;replace hst := hst.grow hC;refine wcb hm (fun hb hm => go ?_) fun hb hm => ?_
     ·obtain ⟨hb_241, hm⟩ := chk_some hm;refine lV (.string ((⟨#[112, 114, 117, 110, 101, 32]⟩ : ByteArray) ++ (⟨#[97, 112, 97, 114, 116]⟩))) (r_addS Try.underlying9 rfl rfl hb_241) ?_;obtain ⟨hb_242, hm⟩ := chk_some hm;refine lV (.string (((⟨#[112, 114, 117, 110, 101, 32]⟩ : ByteArray) ++ (⟨#[97, 112, 97, 114, 116]⟩)) ++ (⟨#[32]⟩))) (r_addS Try.underlying9 rfl rfl hb_242) <| l_makeMap (col := col_106) (fk := Value.bool) (fv := Value.string) 6 rfl ?_;intro g_243 w_244 col_245 hg_246 h_247;obtain ⟨es_252, hz_253, hm⟩ := bZ hm;have hz_253 : es_252 = mput ([] : List (Bool × ByteArray)) true (⟨#[111, 110]⟩) := (Option.some.inj hz_253).symm;refine l_mapUpdateI (k := true) (v := (⟨#[111, 110]⟩)) KeyD.bool h_247 Try.underlying52 Try.underlying4 rfl rfl rfl ?_;intro w_248 hk_249 hs_250 h_251;rw [← hz_253] at h_251;obtain ⟨es_258, hz_259, hm⟩ := bZ hm;have hz_259 : es_258 = mput es_252 false (⟨#[111, 102, 102]⟩) := (Option.some.inj hz_259).symm;refine l_mapUpdateI (k := false) (v := (⟨#[111, 102, 102]⟩)) KeyD.bool h_251 Try.underlying52 Try.underlying4 rfl rfl rfl ?_;intro w_254 hk_255 hs_256 h_257;rw [← hz_259] at h_257;refine go ?_;refine lFa ⟨_, _, rfl⟩ ?_;refine lV (.pointer (((some (⟨g_77, 0, none⟩ : Addr)).map (·.add 5)).map (·.add 1))) (r_idxA (sz := 1) (j := 1) Try.underlying30 Try.sizeOf4 rfl rfl (by decide) (by decide) (sptr_addr ⟨_, _, rfl⟩)) ?_;replace hb_85 := ((hb_85.gr hg_246).kp hk_249).kp hk_255;refine lW ((((hb_85.atN).part 5 2 _ rfl)).nth (q := 1) rfl) <| lV (.string ((mget es_258 x_29.2.2.2.2.2.2).getD (⟨#[]⟩))) (r_lookup KeyD.bool h_257 Try.underlying52 Try.underlying4 Try.zeroValue9 rfl rfl) ?_;obtain ⟨hb_260, hm⟩ := chk_some hm;refine lV (.string ((((⟨#[112, 114, 117, 110, 101, 32]⟩ : ByteArray) ++ (⟨#[97, 112, 97, 114, 116]⟩)) ++ (⟨#[32]⟩)) ++ ((mget es_258 x_29.2.2.2.2.2.2).getD (⟨#[]⟩)))) (r_addS Try.underlying9 rfl rfl hb_260) ?_;obtain ⟨r_261, hr_262, hm⟩ := bZ hm;replace h_111 := ((h_111.gr hg_246).kp hk_249).kp hk_255;replace hb_5 := ((hb_5.gr hg_246).kp hk_249).kp hk_255;refine lcA (c_query_writer_command 1 3 hr_262 rfl h_111 hb_5) ?_;rintro _ w_267 ⟨col_269, oa_263, oc_264, rfl, hg_268, oh_265, ohb_266⟩;refine ⟨_, rfl, ?_⟩;refine lnil ?_;replace h_62 := (((h_62.gr hg_246).kp hk_249).kp hk_255).kpp hg_268;replace h_67 := (((h_67.gr hg_246).kp hk_249).kp hk_255).kpp hg_268;replace h_74 := (((h_74.gr hg_246).kp hk_249).kp hk_255).kpp hg_268;replace hb_14 := (((hb_14.gr hg_246).kp hk_249).kp hk_255).kpp hg_268;replace hst := (((hst.grow hg_246).kp hk_249 hs_250).kp hk_255 hs_256).kpp hg_268;replace hb_85 := hb_85.kpp hg_268;exact ⟨rfl, _, _, _, _, _, _, _, hm, hst, oh_265, ohb_266, hb_14, h_62, h_67, h_74, hb_85⟩
     refine wskip ?_;exact ⟨rfl, _, _, _, _, _, _, _, hm, hst, h_111, hb_5, hb_14, h_62, h_67, h_74, hb_85⟩
    refine go ?_;refine lV (.string (⟨#[98, 97, 114, 114, 101, 110]⟩)) (r_index (j := 0) Try.underlying51 Try.sizeOf9 Try.isAgg9 rfl rfl (by decide) (by decide) rfl) <| go ?_;refine wquiet (col := col_96) (by kernel_rfl) (by kernel_rfl) <| go ?_;refine qF ⟨_, _, rfl⟩ ?_;refine qv (v := (.pointer (((some (⟨g_77, 0, none⟩ : Addr)).map (·.add 5)).map (·.add 0)))) rfl (fun _ hC => r_idxA (sz := 1) (j := 0) Try.underlying30 Try.sizeOf4 rfl rfl (by decide) (by decide) (sptr_addr ⟨_, _, rfl⟩)) ?_;refine qW (fun _ hC => ((((hb_85.atN).part 5 2 _ rfl)).nth (q := 0) rfl).gr (hC.bl col_96)) ?_;refine go ?_;refine qv (v := (.pointer ((some (⟨g_6, 0, none⟩ : Addr)).map (·.add 0)))) rfl (fun _ hC => r_idxA (sz := 1) (j := 0) Try.underlying30 Try.sizeOf4 rfl rfl (by decide) (by decide) ⟨_, _, rfl⟩) ?_;refine qW (fun _ hC => ((hb_14.atN).nth (q := 0) rfl).gr (hC.bl col_96)) ?_;refine go ?_;refine qnil ?_;intro w_270 hC;replace hC := hC.bl col_96;replace h_101 := h_101.gr hC;replace h_62 := h_62.gr hC;replace h_67 := h_67.gr hC;replace h_74 := h_74.gr hC;replace hb_5 := hb_5.gr hC;replace hb_14 := hb_14.gr hC;replace hb_85 := hb_85.gr hC;replace hst := hst.grow hC;refine wcb hm (fun hb hm => go ?_) fun hb hm => ?_
    ·obtain ⟨hb_271, hm⟩ := chk_some hm;refine lV (.string ((⟨#[112, 114, 117, 110, 101, 32]⟩ : ByteArray) ++ (⟨#[98, 97, 114, 114, 101, 110]⟩))) (r_addS Try.underlying9 rfl rfl hb_271) ?_;obtain ⟨hb_272, hm⟩ := chk_some hm;refine lV (.string (((⟨#[112, 114, 117, 110, 101, 32]⟩ : ByteArray) ++ (⟨#[98, 97, 114, 114, 101, 110]⟩)) ++ (⟨#[32]⟩))) (r_addS Try.underlying9 rfl rfl hb_272) <| l_makeMap (col := col_96) (fk := Value.bool) (fv := Value.string) 7 rfl ?_;intro g_273 w_274 col_275 hg_276 h_277;obtain ⟨es_282, hz_283, hm⟩ := bZ hm;have hz_283 : es_282 = mput ([] : List (Bool × ByteArray)) true (⟨#[111, 110]⟩) := (Option.some.inj hz_283).symm;refine l_mapUpdateI (k := true) (v := (⟨#[111, 110]⟩)) KeyD.bool h_277 Try.underlying52 Try.underlying4 rfl rfl rfl ?_;intro w_278 hk_279 hs_280 h_281;rw [← hz_283] at h_281;obtain ⟨es_288, hz_289, hm⟩ := bZ hm;have hz_289 : es_288 = mput es_282 false (⟨#[111, 102, 102]⟩) := (Option.some.inj hz_289).symm;refine l_mapUpdateI (k := false) (v := (⟨#[111, 102, 102]⟩)) KeyD.bool h_281 Try.underlying52 Try.underlying4 rfl rfl rfl ?_;intro w_284 hk_285 hs_286 h_287;rw [← hz_289] at h_287;refine go ?_;refine lFa ⟨_, _, rfl⟩ ?_;refine lV (.pointer (((some (⟨g_77, 0, none⟩ : Addr)).map (·.add 5)).map (·.add 0))) (r_idxA (sz := 1) (j := 0) Try.underlying30 Try.sizeOf4 rfl rfl (by decide) (by decide) (sptr_addr ⟨_, _, rfl⟩)) ?_;replace hb_85 := ((hb_85.gr hg_276).kp hk_279).kp hk_285;refine lW ((((hb_85.atN).part 5 2 _ rfl)).nth (q := 0) rfl) <| lV (.string ((mget es_288 x_29.2.2.2.2.2.1).getD (⟨#[]⟩))) (r_lookup KeyD.bool h_287 Try.underlying52 Try.underlying4 Try.zeroValue9 rfl rfl) ?_;obtain ⟨hb_290, hm⟩ := chk_some hm;refine lV (.string ((((⟨#[112, 114, 117, 110, 101, 32]⟩ : ByteArray) ++ (⟨#[98, 97, 114, 114, 101, 110]⟩)) ++ (⟨#[32]⟩)) ++ ((mget es_288 x_29.2.2.2.2.2.1).getD (⟨#[]⟩)))) (r_addS Try.underlying9 rfl rfl hb_290) ?_;obtain ⟨r_291, hr_292, hm⟩ := bZ hm;replace h_101 := ((h_101.gr hg_276).kp hk_279).kp hk_285;replace hb_5 := ((hb_5.gr hg_276).kp hk_279).kp hk_285;refine lcA (c_query_writer_command 1 3 hr_292 rfl h_101 hb_5) ?_;rintro _ w_297 ⟨col_299, oa_293, oc_294, rfl, hg_298, oh_295, ohb_296⟩;refine ⟨_, rfl, ?_⟩;refine lnil ?_;replace h_62 := (((h_62.gr hg_276).kp hk_279).kp hk_285).kpp hg_298;replace h_67 := (((h_67.gr hg_276).kp hk_279).kp hk_285).kpp hg_298;replace h_74 := (((h_74.gr hg_276).kp hk_279).kp hk_285).kpp hg_298;replace hb_14 := (((hb_14.gr hg_276).kp hk_279).kp hk_285).kpp hg_298;replace hst := (((hst.grow hg_276).kp hk_279 hs_280).kp hk_285 hs_286).kpp hg_298;replace hb_85 := hb_85.kpp hg_298;exact ⟨rfl, _, _, _, _, _, _, _, hm, hst, oh_295, ohb_296, hb_14, h_62, h_67, h_74, hb_85⟩
    refine wskip ?_;exact ⟨rfl, _, _, _, _, _, _, _, hm, hst, h_101, hb_5, hb_14, h_62, h_67, h_74, hb_85⟩
   refine go ?_;refine lV _ (r_ldB Try.isAgg32 Try.sizeOf32 hb_85) ?_;obtain ⟨r_300, hr_301, hm⟩ := bZ hm;refine lcA (c_query_writer_uses 1 3 hr_301 rfl h_92 hb_5 h_62 h_67 h_74) ?_;rintro _ w_306 ⟨col_308, oa_302, oc_303, rfl, hg_307, oh_304, ohb_305⟩;refine ⟨_, rfl, go ?_⟩;replace h_62 := h_62.kpp hg_307;replace h_67 := h_67.kpp hg_307;replace h_74 := h_74.kpp hg_307;replace hb_14 := hb_14.kpp hg_307;replace hb_85 := hb_85.kpp hg_307;replace hst := hst.kpp hg_307;refine wcb hm (fun hb hm => go ?_) fun hb hm => ?_
   ·obtain ⟨r_309, hr_310, hm⟩ := bZ hm;refine lcA (c_query_writer_command 1 3 hr_310 rfl oh_304 ohb_305) ?_;rintro _ w_315 ⟨col_317, oa_311, oc_312, rfl, hg_316, oh_313, ohb_314⟩;refine ⟨_, rfl, go ?_⟩;replace h_62 := h_62.kpp hg_316;replace h_67 := h_67.kpp hg_316;replace h_74 := h_74.kpp hg_316;replace hb_14 := hb_14.kpp hg_316;replace hb_85 := hb_85.kpp hg_316;replace hst := hst.kpp hg_316;exact ⟨rfl, _, _, _, _, _, _, _, _, hm, hst, oh_313, ohb_314, hb_14, h_62, h_67, h_74, hb_85, rfl⟩
   refine wskip ?_;exact ⟨rfl, _, _, _, _, _, _, _, _, hm, hst, oh_304, ohb_305, hb_14, h_62, h_67, h_74, hb_85, rfl⟩
  refine go ?_;refine lV (.pointer (some ⟨g_1, 0, none⟩)) (r_nilCheck rfl) <| lFLb hb_5 <| lMB rfl ?_;refine bcb hm (fun hg_318 hm => go ?_) fun hg_318 hm => go ?_
  ·refine lV (.bool true) (r_pickT (congrArg Value.bool hg_318) rfl) <| lV (.pointer (some ⟨g_1, 0, none⟩)) (r_nilCheck rfl) <| lFa ⟨_, _, rfl⟩ ?_;refine l_bstoreF (off := 3) (v := (.bool true)) hb_5 Try.sizeOf4 rfl rfl (by intro u hu; simp only [Value.cells, List.mem_cons, List.not_mem_nil, or_false] at hu; subst hu; rfl) rfl rfl ?_;intro w_319 hk_320 hs_321 hb_322;replace hb_322 : Box 49 1 col_79 w_319 g_1 #[(.pointer (bif v_19 then some ⟨g_1, 0, none⟩ else none)), (.slice a_21 v_20.length cap_22), (.int .i64 v_24), (.bool true)] := hb_322;refine lnil ?_;replace h_23 := h_23.kp hk_320;replace h_62 := h_62.kp hk_320;replace h_67 := h_67.kp hk_320;replace h_74 := h_74.kp hk_320;replace hb_14 := hb_14.kp hk_320;replace hb_85 := hb_85.kp hk_320;replace hst := hst.kp hk_320 hs_321;exact ⟨rfl, _, _, _, _, _, _, _, hm, hst, h_23, hb_322, hb_14, h_62, h_67, h_74, hb_85⟩
  refine lV _ (r_ldB Try.isAgg32 Try.sizeOf32 hb_85) <| go ?_;obtain ⟨r_323, hr_324, hm⟩ := bZ hm;refine lcA (c_query_fits hr_324 h_62 h_67 h_74) ?_;rintro _ w_325 ⟨rfl, hg_326⟩;refine ⟨_, rfl, ?_⟩;replace hg_326 : Grow col_79 w_82 col_79 w_325 := .of_below hg_326;refine go ?_;refine lV (.bool (!r_323)) (r_pickF (congrArg Value.bool hg_318) rfl) <| lV (.pointer (some ⟨g_1, 0, none⟩)) (r_nilCheck rfl) <| lFa ⟨_, _, rfl⟩ ?_;replace hb_5 := hb_5.gr hg_326;refine l_bstoreF (off := 3) (v := (.bool (!r_323))) hb_5 Try.sizeOf4 rfl rfl (by intro u hu; simp only [Value.cells, List.mem_cons, List.not_mem_nil, or_false] at hu; subst hu; rfl) rfl rfl ?_;intro w_327 hk_328 hs_329 hb_330;replace hb_330 : Box 49 1 col_79 w_327 g_1 #[(.pointer (bif v_19 then some ⟨g_1, 0, none⟩ else none)), (.slice a_21 v_20.length cap_22), (.int .i64 v_24), (.bool (!r_323))] := hb_330;refine lnil ?_;replace h_23 := (h_23.gr hg_326).kp hk_328;replace h_62 := (h_62.gr hg_326).kp hk_328;replace h_67 := (h_67.gr hg_326).kp hk_328;replace h_74 := (h_74.gr hg_326).kp hk_328;replace hb_14 := (hb_14.gr hg_326).kp hk_328;replace hb_85 := (hb_85.gr hg_326).kp hk_328;replace hst := (hst.grow hg_326).kp hk_328 hs_329;exact ⟨rfl, _, _, _, _, _, _, _, hm, hst, h_23, hb_330, hb_14, h_62, h_67, h_74, hb_85⟩
abbrev semi : ByteArray := ⟨#[59, 10]⟩
theorem semi_size : semi.size = 2 := rfl
abbrev barT : ByteArray := ⟨#[32, 124, 32]⟩
abbrev blkT : ByteArray := ⟨#[32]⟩
def swT (on : Bool) : ByteArray := if on = true then ⟨#[32, 111, 110]⟩ else ⟨#[32, 111, 102, 102]⟩
theorem swT_size (on : Bool) : (swT on).size ≤ 4 := by cases on <;> decide
def oneT (p : ByteArray × ByteArray) (given : PairsV) : ByteArray := ((⟨#[97, 108, 108, 32]⟩ : ByteArray) ++ p.1) ++ pjn barT (given.map wd)
def allT (given : PairsV) : PairsV → ByteArray
 | [] => ⟨#[]⟩
 | p :: l => (oneT p given ++ semi) ++ allT given l
def bodyT (q : QryV) : ByteArray := if q.1 = 1 then ((⟨#[99, 104, 97, 110, 99, 101]⟩ : ByteArray) ++ pjn blkT (q.2.1.map wd)) ++ semi else if q.1 = 2 then (((⟨#[97, 115, 107]⟩ : ByteArray) ++ pjn blkT (q.2.1.map wd)) ++ pjn barT (q.2.2.1.map wd)) ++ semi else if q.1 = 3 then allT q.2.2.1 q.2.1 else ⟨#[]⟩
def bodyN (q : QryV) : Nat := if q.1 = 1 then 1 else if q.1 = 2 then 1 else if q.1 = 3 then q.2.1.length else 0
def oddB (q : QryV) : Bool := if q.1 = 1 then !q.2.1.all nmP else if q.1 = 2 then !q.2.1.all nmP || !q.2.2.1.all nmP else if q.1 = 3 then q.2.1.any fun p => !nameB p.1 || !q.2.2.1.all nmP else false
def fitsB (q : QryV) : Bool := if q.1 = 1 then decide (q.2.2.1.length = 0) else if q.1 = 2 then decide (0 < q.2.1.length) else if q.1 = 3 then decide (q.2.1.length = 1) else false
def goodQ (q : QryV) : Bool := fitsB q && (howB q && ordB q) && !oddB q
def useC (u : ByteArray) (q : QryV) : ByteArray := if useT q = u then ⟨#[]⟩ else useT q ++ semi
def prnC (name : ByteArray) (a on : Bool) : ByteArray := if on = a then ⟨#[]⟩ else (name ++ swT on) ++ semi
abbrev barrenT : ByteArray := ⟨#[112, 114, 117, 110, 101, 32, 98, 97, 114, 114, 101, 110]⟩
abbrev apartT : ByteArray := ⟨#[112, 114, 117, 110, 101, 32, 97, 112, 97, 114, 116]⟩
def stepT (u : ByteArray) (a b : Bool) (q : QryV) : ByteArray := ((useC u q ++ prnC barrenT a q.2.2.2.2.2.1) ++ prnC apartT b q.2.2.2.2.2.2) ++ bodyT q
def stepN (u : ByteArray) (a b : Bool) (q : QryV) : Nat := (if useT q = u then 0 else 1) + (if q.2.2.2.2.2.1 = a then 0 else 1) + (if q.2.2.2.2.2.2 = b then 0 else 1) + bodyN q
def scrT : List QryV → ByteArray → Bool → Bool → ByteArray
 | [], _, _, _ => ⟨#[]⟩
 | q :: l, u, a, b => stepT u a b q ++ scrT l (useT q) q.2.2.2.2.2.1 q.2.2.2.2.2.2
def scrN : List QryV → ByteArray → Bool → Bool → Nat
 | [], _, _, _ => 0
 | q :: l, u, a, b => stepN u a b q + scrN l (useT q) q.2.2.2.2.2.1 q.2.2.2.2.2.2
def tq (q : QryV) : Nat := szP q.2.1 + szP q.2.2.1 + szT q.2.2.2.2.1 + 130
def tqs (l : List QryV) : Nat := (l.map tq).sum
theorem tqs_cons (q : QryV) (l : List QryV) : tqs (q :: l) = tq q + tqs l := by simp [tqs]
theorem oneT_size (p : ByteArray × ByteArray) (given : PairsV) : (oneT p given).size ≤ 7 + p.1.size + szP given := by
 have h1 := pjn_size barT (given.map wd)
 rw [szT_wd] at h1
 have e1 : (⟨#[97, 108, 108, 32]⟩ : ByteArray).size = 4 := rfl
 have e2 : barT.size = 3 := rfl
 rw [oneT, ByteArray.size_append, ByteArray.size_append]; omega
theorem allT_size (given : PairsV) : ∀ l : PairsV, (allT given l).size ≤ szP l + l.length * (9 + szP given)
 | [] => Nat.zero_le _
 | p :: l => by
  have h1 := allT_size given l
  have h2 := oneT_size p given
  rw [allT, ByteArray.size_append, ByteArray.size_append, semi_size, szP_cons, nC, Nat.add_mul, Nat.one_mul]
  generalize l.length * (9 + szP given) = M at *
  omega
theorem bodyT_size {A : Nat} {q : QryV} (hA : q.2.1.length ≤ A) : (bodyT q).size ≤ (A + 1) * (szP q.2.1 + szP q.2.2.1 + 20) := by
 have h1 := pjn_size blkT (q.2.1.map wd)
 have h2 := pjn_size barT (q.2.2.1.map wd)
 have h3 := allT_size q.2.2.1 q.2.1
 rw [szT_wd] at h1 h2
 have e1 : (⟨#[99, 104, 97, 110, 99, 101]⟩ : ByteArray).size = 6 := rfl
 have e2 : barT.size = 3 := rfl
 have e3 : blkT.size = 1 := rfl
 have e4 : (⟨#[97, 115, 107]⟩ : ByteArray).size = 3 := rfl
 have e5 : (⟨#[]⟩ : ByteArray).size = 0 := rfl
 have h4 : q.2.1.length * (9 + szP q.2.2.1) ≤ A * (szP q.2.1 + szP q.2.2.1 + 20) := Nat.mul_le_mul hA (by omega)
 rw [Nat.add_mul, Nat.one_mul]
 generalize A * (szP q.2.1 + szP q.2.2.1 + 20) = M at *
 rw [bodyT]
 split
 ·rw [ByteArray.size_append, ByteArray.size_append, semi_size]; omega
 ·split
  ·rw [ByteArray.size_append, ByteArray.size_append, ByteArray.size_append, semi_size]; omega
  ·split
   ·omega
   ·omega
theorem useC_size (u : ByteArray) (q : QryV) : (useC u q).size ≤ szT q.2.2.2.2.1 + 13 := by
 have := useT_size q
 rw [useC]
 split
 ·exact Nat.zero_le _
 ·rw [ByteArray.size_append, semi_size]; omega
theorem prnC_size (name : ByteArray) (a on : Bool) : (prnC name a on).size ≤ name.size + 6 := by
 have := swT_size on
 rw [prnC]
 split
 ·exact Nat.zero_le _
 ·rw [ByteArray.size_append, ByteArray.size_append, semi_size]; omega
theorem stepT_size {A : Nat} {q : QryV} (hA : q.2.1.length ≤ A) (u : ByteArray) (a b : Bool) : (stepT u a b q).size ≤ (A + 2) * tq q := by
 have h1 := useC_size u q
 have h2 := prnC_size barrenT a q.2.2.2.2.2.1
 have h3 := prnC_size apartT b q.2.2.2.2.2.2
 have h4 := bodyT_size hA
 have e1 : barrenT.size = 12 := rfl
 have e2 : apartT.size = 11 := rfl
 have h5 : (A + 1) * (szP q.2.1 + szP q.2.2.1 + 20) ≤ (A + 1) * tq q := Nat.mul_le_mul_left _ (by rw [tq]; omega)
 rw [stepT, ByteArray.size_append, ByteArray.size_append, ByteArray.size_append, show A + 2 = (A + 1) + 1 from rfl, Nat.add_mul (A + 1), Nat.one_mul]
 have h6 : szT q.2.2.2.2.1 + 130 ≤ tq q := by rw [tq]; omega
 omega
theorem pjn_nil (h : ByteArray) : pjn h [] = ⟨#[]⟩ := rfl
theorem pjn_ne (h : ByteArray) {ps : List ByteArray} (hp : ps ≠ []) : pjn h ps = h ++ jn ps := if_neg hp
/-! the document's words -/
theorem flat_all : ∀ l : PairsV, (l.flatMap fun p => [p.1, p.2]).all nameB = l.all nmP
 | [] => rfl
 | p :: l => by rw [List.flatMap_cons, List.all_append, flat_all l, List.all_cons]; simp [nmP]
theorem flat_szT : ∀ l : PairsV, szT (l.flatMap fun p => [p.1, p.2]) ≤ 2 * szP l
 | [] => by simp [szT]
 | p :: l => by
  have := flat_szT l
  rw [List.flatMap_cons, szT_app, szP_cons, szT_cons, szT_cons]
  have e : szT [] = 0 := rfl
  omega
theorem flat_len (l : PairsV) : (l.flatMap fun p => [p.1, p.2]).length = 2 * l.length := by
 induction l with
 | nil => rfl
 | cons p l ih => rw [List.flatMap_cons, nA, ih, nC]; simp; omega
theorem fits_eq (q : QryV) : m_query_fits q = some (fitsB q) := by
 rw [m_query_fits, fitsB]
 by_cases h1 : q.1 = 1
 ·rw [if_pos (dT h1), if_pos h1]; congr 1; exact decide_eq_decide.2 (by omega)
 ·by_cases h2 : q.1 = 2
  ·rw [if_neg (dF h1), if_pos (dT h2), if_neg h1, if_pos h2]; congr 1; exact decide_eq_decide.2 (by omega)
  ·by_cases h3 : q.1 = 3
   ·rw [if_neg (dF h1), if_neg (dF h2), if_pos (dT h3), if_neg h1, if_neg h2, if_pos h3]; congr 1; exact decide_eq_decide.2 (by omega)
   ·rw [if_neg (dF h1), if_neg (dF h2), if_neg (dF h3), if_neg h1, if_neg h2, if_neg h3]
theorem shape_eq (q : QryV) : m_r23_shape q = some (fitsB q) := fits_eq q
theorem switched_eq (b : Bool) : m_r23_switched b = some (swT b ++ semi) := by cases b <;> rfl
def namesL (q : QryV) : List ByteArray := (if q.1 = 3 then q.2.1.map (·.1) else q.2.1.flatMap fun p => [p.1, p.2]) ++ q.2.2.1.flatMap fun p => [p.1, p.2]
theorem say_J3_eq (g names : List ByteArray) (hn : names.length ≤ 1099511627776) (hg2 : g.length ≤ 1099511627776) (s : ByteArray) (hs : s.size ≤ 17592186044416) (gw : List ByteArray) : m_r23_say_J3 (gw, g) names s = some (s ++ semi, names ++ g) := by
 rw [m_r23_say_J3, chk_pos (by simp only [nN, maxLen]; omega), chk_pos (by simp only [List.nil_append, maxLen]; omega), chk_pos (by rw [semi_size]; simp only [maxLen]; omega), List.nil_append]
section
variable {N : Nat} {q : QryV} (ha : szP q.2.1 ≤ 1099511627776) (hg : szP q.2.2.1 ≤ 1099511627776) (hN : 1099511627776 < N)
include ha hg hN
omit ha in
theorem say_J2_eq (names : List ByteArray) (hn : names.length ≤ 1099511627776) (s : ByteArray) (hs : s.size ≤ 4398046511104) :
  m_r23_say_J2 N (q.2.2.1.map wd, q.2.2.1.flatMap fun p => [p.1, p.2]) names s = some ((s ++ pjn barT (q.2.2.1.map wd)) ++ semi, names ++ q.2.2.1.flatMap fun p => [p.1, p.2]) := by
 have h1 := szP_len q.2.2.1
 have h2 := jn_size (q.2.2.1.map wd)
 rw [szT_wd] at h2
 have e2 : barT.size = 3 := rfl
 have h3 := flat_len q.2.2.1
 rw [m_r23_say_J2]
 dsimp only
 by_cases h0 : q.2.2.1 = []
 ·rw [h0]
  rw [List.map_nil, if_neg (by decide), pjn_nil, app_nilB]
  exact say_J3_eq [] names hn (by simp) s (by omega) []
 ·have : q.2.2.1.length ≠ 0 := fun e => h0 (List.length_eq_zero_iff.1 e)
  rw [if_pos (dT (by rw [List.length_map]; omega)), pjn_ne _ (by simpa using h0), chk_pos (by rw [e2]; simp only [maxLen]; omega), ref_join_eq (by rw [List.length_map]; omega) (by rw [szT_wd]; exact hg) (by rw [List.length_map]; omega), oB, chk_pos (by rw [ByteArray.size_append, e2]; simp only [maxLen]; omega),
   say_J3_eq _ names hn (by omega) _ (by rw [ByteArray.size_append, ByteArray.size_append, e2]; omega)]
  rw [ByteArray.append_assoc (a := s)]
omit ha in
theorem say_J1_eq (e : ByteArray) (he : e.size ≤ 10) (asked names : List ByteArray) (hz : szT asked ≤ 1099511627776) (hn : names.length ≤ 1099511627776) :
  m_r23_say_J1 N (q.2.2.1.map wd, q.2.2.1.flatMap fun p => [p.1, p.2]) e asked names = some (((e ++ pjn blkT asked) ++ pjn barT (q.2.2.1.map wd)) ++ semi, names ++ q.2.2.1.flatMap fun p => [p.1, p.2]) := by
 have h1 := szT_len asked
 have h2 := jn_size asked
 have e2 : blkT.size = 1 := rfl
 rw [m_r23_say_J1]
 by_cases h0 : asked = []
 ·subst h0
  rw [if_neg (by decide), say_J2_eq hg hN names hn e (by omega), pjn_nil, app_nilB]
 ·have : asked.length ≠ 0 := fun e => h0 (List.length_eq_zero_iff.1 e)
  rw [if_pos (dT (by omega)), chk_pos (by rw [e2]; simp only [maxLen]; omega), ref_join_eq (by omega) hz (by omega), oB, chk_pos (by rw [ByteArray.size_append, e2]; simp only [maxLen]; omega), say_J2_eq hg hN names hn _ (by rw [ByteArray.size_append, ByteArray.size_append, e2]; omega), pjn_ne _ h0, ByteArray.append_assoc (a := e)]
theorem say_eq (hf : fitsB q = true) : m_r23_say N q = some (bodyT q, namesL q) := by
 have h1 := szP_len q.2.1
 have h2 := szP_len q.2.2.1
 have h3 := flat_len q.2.1
 rw [m_r23_say, ref_words_eq ha (by omega), oB, ref_words_eq hg (by omega), oB, bodyT, namesL]
 rw [fitsB] at hf
 by_cases k1 : q.1 = 1
 ·rw [if_pos k1] at hf
  have hg0 : q.2.2.1 = [] := List.length_eq_zero_iff.1 (of_decide_eq_true hf)
  rw [k1, show at? ([⟨#[]⟩, ⟨#[99, 104, 97, 110, 99, 101]⟩, ⟨#[97, 115, 107]⟩, ⟨#[97, 108, 108]⟩] : List ByteArray) 1 = some ⟨#[99, 104, 97, 110, 99, 101]⟩ from rfl, oB, if_neg (by decide), say_J1_eq hg hN _ (by decide) _ _ (by rw [szT_wd]; exact ha) (by show List.length (List.flatMap _ _) ≤ _; omega), hg0]
  simp only [List.map_nil, pjn, if_true, app_nilB]
  rfl
 ·by_cases k2 : q.1 = 2
  ·rw [k2, show at? ([⟨#[]⟩, ⟨#[99, 104, 97, 110, 99, 101]⟩, ⟨#[97, 115, 107]⟩, ⟨#[97, 108, 108]⟩] : List ByteArray) 2 = some ⟨#[97, 115, 107]⟩ from rfl, oB, if_neg (by decide), say_J1_eq hg hN _ (by decide) _ _ (by rw [szT_wd]; exact ha) (by show List.length (List.flatMap _ _) ≤ _; omega)]
   rfl
  ·by_cases k3 : q.1 = 3
   ·rw [if_neg k1, if_neg k2, if_pos k3] at hf
    have hl := of_decide_eq_true hf
    obtain ⟨p, hp⟩ := List.length_eq_one_iff.1 hl
    have hps : szP q.2.1 = p.1.size + p.2.size + 3 := by rw [hp, szP_cons]; rfl
    rw [if_neg k1, if_neg k2, if_pos k3, if_pos k3, k3, show at? ([⟨#[]⟩, ⟨#[99, 104, 97, 110, 99, 101]⟩, ⟨#[97, 115, 107]⟩, ⟨#[97, 108, 108]⟩] : List ByteArray) 3 = some ⟨#[97, 108, 108]⟩ from rfl, oB, if_pos (by decide), hp, show at? [p] 0 = some p from rfl, oB,
     say_J1_eq hg hN _ (by decide) _ _ (by rw [szT_cons, show szT [] = 0 from rfl]; omega) (by simp)]
    rw [allT, allT, app_nilB, oneT, pjn_ne _ (by simp), jn, jtl, app_nilB, List.map_cons, List.map_nil, show (⟨#[97, 108, 108, 32]⟩ : ByteArray) = ⟨#[97, 108, 108]⟩ ++ blkT from rfl]
    simp only [ByteArray.append_assoc]
   ·rw [if_neg k1, if_neg k2, if_neg k3] at hf; cases hf
end
theorem names_good {q : QryV} (hf : fitsB q = true) : (namesL q).all nameB = !oddB q := by
 rw [namesL, List.all_append, flat_all, oddB]
 rw [fitsB] at hf
 by_cases k1 : q.1 = 1
 ·rw [if_pos k1] at hf
  have hg0 : q.2.2.1 = [] := List.length_eq_zero_iff.1 (of_decide_eq_true hf)
  rw [if_pos k1, if_neg (by omega), flat_all, hg0]; simp
 ·by_cases k2 : q.1 = 2
  ·rw [if_neg k1, if_pos k2, if_neg (by omega), flat_all]
   cases q.2.1.all nmP <;> cases q.2.2.1.all nmP <;> rfl
  ·by_cases k3 : q.1 = 3
   ·rw [if_neg k1, if_neg k2, if_pos k3] at hf
    obtain ⟨p, hp⟩ := List.length_eq_one_iff.1 (of_decide_eq_true hf)
    rw [if_neg k1, if_neg k2, if_pos k3, if_pos k3, hp]
    simp only [List.map_cons, List.map_nil, List.all_cons, List.all_nil, List.any_cons, List.any_nil, Bool.or_false, Bool.and_true]
    cases nameB p.1 <;> cases q.2.2.1.all nmP <;> rfl
   ·rw [if_neg k1, if_neg k2, if_neg k3] at hf; cases hf
theorem namesL_szT (q : QryV) : szT (namesL q) ≤ 2 * szP q.2.1 + 2 * szP q.2.2.1 := by
 have h1 := flat_szT q.2.1
 have h2 := flat_szT q.2.2.1
 have h3 : ∀ l : PairsV, szT (l.map (·.1)) ≤ szP l := fun l => by
  induction l with
  | nil => exact Nat.zero_le _
  | cons p l ih => rw [List.map_cons, szT_cons, szP_cons]; omega
 have h4 := h3 q.2.1
 rw [namesL, szT_app]
 split <;> omega
section
variable {N : Nat} {q : QryV} {A : Nat} (hA : q.2.1.length ≤ A) (ha : szP q.2.1 ≤ 1099511627776) (hg : szP q.2.2.1 ≤ 1099511627776) (ho : szT q.2.2.2.2.1 ≤ 1099511627776) (hN : 1099511627776 < N)
include ha hg hN
omit ha in
theorem text_L2 (kk : Bool → List Int → Int → Bool → ByteArray → Bool → Bool → Option (ByteArray × Int)) (u : ByteArray) : ∀ (l : PairsV) (fl : Bool) (xs : List Int) (n : Int) (o : Bool), szP l ≤ 1099511627776 → 0 ≤ n → n + l.length < 4611686018427387904 → xs.length + (szP l + l.length * (9 + szP q.2.2.1)) ≤ 140737488355328 →
  ∃ fl', m_query_Text_L2 N kk q u l fl xs n o = kk fl' (xs ++ sints (allT q.2.2.1 l)) (n + l.length) (o || l.any fun p => !nameB p.1 || !q.2.2.1.all nmP) u q.2.2.2.2.2.1 q.2.2.2.2.2.2
 | [], fl, xs, n, o, _, _, _, _ => by
  refine ⟨fl, ?_⟩
  rw [m_query_Text_L2.eq_1, m_query_Text_J2, allT, show sints ⟨#[]⟩ = [] from rfl, List.append_nil]
  simp
 | p :: l, fl, xs, n, o, hl, h0, h1, h2 => by
  rw [szP_cons] at hl h2
  rw [nC] at h1 h2
  rw [Nat.add_mul, Nat.one_mul] at h2
  have e1 : (⟨#[97, 108, 108, 32]⟩ : ByteArray).size = 4 := rfl
  have hp : (pjn (⟨#[32, 124, 32]⟩ : ByteArray) (q.2.2.1.map wd)).size ≤ 3 + szP q.2.2.1 := by have := pjn_size barT (q.2.2.1.map wd); rwa [szT_wd] at this
  have e2 : (⟨#[32, 124, 32]⟩ : ByteArray).size = 3 := rfl
  have h3 := oneT_size p q.2.2.1
  rw [m_query_Text_L2.eq_2, wname_eq (by omega) (by omega), oB, chk_pos (by rw [e1]; simp only [maxLen]; omega), wpairs_eq (by rw [e2]; omega) hg (by omega), oB, chk_pos (by rw [ByteArray.size_append, e1]; simp only [maxLen]; omega)]
  generalize hM : l.length * (9 + szP q.2.2.1) = M at h2
  rw [wcommand_eq (by show xs.length + (oneT p q.2.2.1).size + 2 ≤ _; omega), oB]
  dsimp only
  rw [w64 (by omega)]
  obtain ⟨fl', ih⟩ := text_L2 kk u l true (xs ++ sints (oneT p q.2.2.1 ++ semi)) (n + 1) ((o || !nameB p.1) || !q.2.2.1.all nmP) (by omega) (by omega) (by omega) (by rw [hM, nA, sints_len, ByteArray.size_append, semi_size]; omega)
  refine ⟨fl', ih.trans ?_⟩
  rw [allT, sints_app (_ ++ semi), List.append_assoc, List.any_cons, nC, show n + 1 + (l.length : Int) = n + ((l.length + 1 : Nat) : Int) by omega]
  congr 1
  cases o <;> cases nameB p.1 <;> cases q.2.2.1.all nmP <;> simp
include hA
theorem text_J6 (kk : Bool → List Int → Int → Bool → ByteArray → Bool → Bool → Option (ByteArray × Int)) (u : ByteArray) (fl : Bool) (xs : List Int) (n : Int) (o : Bool) (h0 : 0 ≤ n) (h1 : n + A < 4611686018427387904) (h2 : xs.length + (A + 1) * (szP q.2.1 + szP q.2.2.1 + 20) ≤ 140737488355328) :
  ∃ fl', m_query_Text_J6 N kk q u fl xs n o = kk fl' (xs ++ sints (bodyT q)) (n + bodyN q) (o || oddB q) u q.2.2.2.2.2.1 q.2.2.2.2.2.2 := by
 have e1 : (⟨#[99, 104, 97, 110, 99, 101]⟩ : ByteArray).size = 6 := rfl
 have e2 : (⟨#[32, 124, 32]⟩ : ByteArray).size = 3 := rfl
 have e3 : (⟨#[32]⟩ : ByteArray).size = 1 := rfl
 have e4 : (⟨#[97, 115, 107]⟩ : ByteArray).size = 3 := rfl
 have p1 : (pjn (⟨#[32]⟩ : ByteArray) (q.2.1.map wd)).size ≤ 1 + szP q.2.1 := by have := pjn_size blkT (q.2.1.map wd); rwa [szT_wd] at this
 have p2 : (pjn (⟨#[32, 124, 32]⟩ : ByteArray) (q.2.2.1.map wd)).size ≤ 3 + szP q.2.2.1 := by have := pjn_size barT (q.2.2.1.map wd); rwa [szT_wd] at this
 have h4 : q.2.1.length * (9 + szP q.2.2.1) ≤ A * (szP q.2.1 + szP q.2.2.1 + 20) := Nat.mul_le_mul hA (by omega)
 rw [Nat.add_mul, Nat.one_mul] at h2
 have h5 : A * (szP q.2.1 + szP q.2.2.1 + 20) + (szP q.2.1 + szP q.2.2.1 + 20) + xs.length ≤ 140737488355328 := by omega
 generalize hM : A * (szP q.2.1 + szP q.2.2.1 + 20) = M at h4 h5
 generalize hM2 : q.2.1.length * (9 + szP q.2.2.1) = M2 at h4
 rw [m_query_Text_J6, bodyT, bodyN, oddB]
 by_cases k1 : q.1 = 1
 ·rw [if_pos (dT k1), if_pos k1, if_pos k1, if_pos k1, wpairs_eq (by rw [e3]; omega) ha (by omega), oB, chk_pos (by rw [e1]; simp only [maxLen]; omega), wcommand_eq (by show xs.length + ((⟨#[99, 104, 97, 110, 99, 101]⟩ : ByteArray) ++ pjn (⟨#[32]⟩ : ByteArray) (q.2.1.map wd)).size + 2 ≤ _; rw [ByteArray.size_append, e1]; omega), oB, m_query_Text_J2]
  dsimp only
  rw [w64 (by omega)]
  exact ⟨true, rfl⟩
 ·by_cases k2 : q.1 = 2
  ·rw [if_neg (by rw [decide_eq_false k1]; decide), if_pos (dT k2), if_neg k1, if_pos k2, if_neg k1, if_pos k2, if_neg k1, if_pos k2, wpairs_eq (by rw [e3]; omega) ha (by omega), oB, chk_pos (by rw [e4]; simp only [maxLen]; omega), wpairs_eq (by rw [e2]; omega) hg (by omega), oB, chk_pos (by rw [ByteArray.size_append, e4]; simp only [maxLen]; omega),
    wcommand_eq (by show xs.length + (((⟨#[97, 115, 107]⟩ : ByteArray) ++ pjn (⟨#[32]⟩ : ByteArray) (q.2.1.map wd)) ++ pjn (⟨#[32, 124, 32]⟩ : ByteArray) (q.2.2.1.map wd)).size + 2 ≤ _; rw [ByteArray.size_append, ByteArray.size_append, e4]; omega), oB, m_query_Text_J2]
   dsimp only
   rw [w64 (by omega), Bool.or_assoc]
   exact ⟨true, rfl⟩
  ·by_cases k3 : q.1 = 3
   ·rw [if_neg (by rw [decide_eq_false k1]; decide), if_neg (by rw [decide_eq_false k2]; decide), if_pos (dT k3), if_neg k1, if_neg k2, if_pos k3, if_neg k1, if_neg k2, if_pos k3, if_neg k1, if_neg k2, if_pos k3]
    exact text_L2 hg hN kk u q.2.1 fl xs n o ha h0 (by omega) (by rw [hM2]; omega)
   ·rw [if_neg (by rw [decide_eq_false k1]; decide), if_neg (by rw [decide_eq_false k2]; decide), if_neg (by rw [decide_eq_false k3]; decide), if_neg k1, if_neg k2, if_neg k3, if_neg k1, if_neg k2, if_neg k3, if_neg k1, if_neg k2, if_neg k3, m_query_Text_J2, show sints ⟨#[]⟩ = [] from rfl, List.append_nil, Bool.or_false]
    exact ⟨fl, by simp⟩
end
theorem mget_sw (b : Bool) : (mget (mput (mput ([] : List (Bool × ByteArray)) true ⟨#[111, 110]⟩) false ⟨#[111, 102, 102]⟩) b).getD ⟨#[]⟩ = if b = true then ⟨#[111, 110]⟩ else ⟨#[111, 102, 102]⟩ := by cases b <;> rfl
section
variable {N : Nat} {q : QryV} {A : Nat} (hA : q.2.1.length ≤ A) (ha : szP q.2.1 ≤ 1099511627776) (hg : szP q.2.2.1 ≤ 1099511627776) (ho : szT q.2.2.2.2.1 ≤ 1099511627776) (hN : 1099511627776 < N)
include hA ha hg hN
theorem text_J5 (kk : Bool → List Int → Int → Bool → ByteArray → Bool → Bool → Option (ByteArray × Int)) (b : Bool) (u : ByteArray) (fl : Bool) (xs : List Int) (n : Int) (o : Bool) (h0 : 0 ≤ n) (h1 : n + A + 1 < 4611686018427387904) (h2 : xs.length + 17 + (A + 1) * (szP q.2.1 + szP q.2.2.1 + 20) ≤ 140737488355328) :
  ∃ fl', m_query_Text_J5 N b kk q u fl xs n o = kk fl' (xs ++ sints (prnC apartT b q.2.2.2.2.2.2 ++ bodyT q)) (n + (((if q.2.2.2.2.2.2 = b then 0 else 1) + bodyN q : Nat) : Int)) (o || oddB q) u q.2.2.2.2.2.1 q.2.2.2.2.2.2 := by
 have e1 : (⟨#[112, 114, 117, 110, 101, 32]⟩ : ByteArray).size = 6 := rfl
 have e2 : (⟨#[97, 112, 97, 114, 116]⟩ : ByteArray).size = 5 := rfl
 have e3 : (⟨#[32]⟩ : ByteArray).size = 1 := rfl
 rw [m_query_Text_J5, prnC]
 by_cases hb : q.2.2.2.2.2.2 = b
 ·rw [if_neg (by rw [decide_eq_true hb]; decide), if_pos hb, if_pos hb, nil_appB, Nat.zero_add]
  exact text_J6 hA ha hg hN kk u fl xs n o h0 (by omega) (by omega)
 ·have ew : ((((⟨#[112, 114, 117, 110, 101, 32]⟩ : ByteArray) ++ (⟨#[97, 112, 97, 114, 116]⟩)) ++ (⟨#[32]⟩)) ++ (if q.2.2.2.2.2.2 = true then (⟨#[111, 110]⟩ : ByteArray) else ⟨#[111, 102, 102]⟩)) = apartT ++ swT q.2.2.2.2.2.2 := by cases q.2.2.2.2.2.2 <;> rfl
  have es : (if q.2.2.2.2.2.2 = true then (⟨#[111, 110]⟩ : ByteArray) else ⟨#[111, 102, 102]⟩).size ≤ 3 := by cases q.2.2.2.2.2.2 <;> decide
  have ez : (apartT ++ swT q.2.2.2.2.2.2).size ≤ 15 := by cases q.2.2.2.2.2.2 <;> decide
  rw [if_pos (by rw [decide_eq_false hb]; decide), if_neg hb, if_neg hb, chk_pos (by rw [e1, e2]; decide), chk_pos (by rw [ByteArray.size_append, e1, e2, e3]; decide), oB, oB, mget_sw, chk_pos (by rw [ByteArray.size_append, ByteArray.size_append, e1, e2, e3]; simp only [maxLen]; omega), ew, wcommand_eq (by show xs.length + _ + _ ≤ _; omega), oB]
  dsimp only
  rw [w64 (by omega)]
  obtain ⟨fl', ih⟩ := text_J6 hA ha hg hN kk u true (xs ++ sints ((apartT ++ swT q.2.2.2.2.2.2) ++ semi)) (n + 1) o (by omega) (by omega) (by rw [nA, sints_len, ByteArray.size_append, semi_size]; omega)
  refine ⟨fl', ih.trans ?_⟩
  rw [sints_app (_ ++ semi), List.append_assoc, show n + 1 + (bodyN q : Int) = n + ((1 + bodyN q : Nat) : Int) by omega]
theorem text_J4 (kk : Bool → List Int → Int → Bool → ByteArray → Bool → Bool → Option (ByteArray × Int)) (a b : Bool) (u : ByteArray) (fl : Bool) (xs : List Int) (n : Int) (o : Bool) (h0 : 0 ≤ n) (h1 : n + A + 2 < 4611686018427387904) (h2 : xs.length + 35 + (A + 1) * (szP q.2.1 + szP q.2.2.1 + 20) ≤ 140737488355328) :
  ∃ fl', m_query_Text_J4 N a b kk q fl xs n o u = kk fl' (xs ++ sints (prnC barrenT a q.2.2.2.2.2.1 ++ (prnC apartT b q.2.2.2.2.2.2 ++ bodyT q))) (n + (((if q.2.2.2.2.2.1 = a then 0 else 1) + ((if q.2.2.2.2.2.2 = b then 0 else 1) + bodyN q) : Nat) : Int)) (o || oddB q) u q.2.2.2.2.2.1 q.2.2.2.2.2.2 := by
 have e1 : (⟨#[112, 114, 117, 110, 101, 32]⟩ : ByteArray).size = 6 := rfl
 have e2 : (⟨#[98, 97, 114, 114, 101, 110]⟩ : ByteArray).size = 6 := rfl
 have e3 : (⟨#[32]⟩ : ByteArray).size = 1 := rfl
 rw [m_query_Text_J4, prnC]
 by_cases hb : q.2.2.2.2.2.1 = a
 ·rw [if_neg (by rw [decide_eq_true hb]; decide), if_pos hb, if_pos hb, nil_appB, Nat.zero_add]
  exact text_J5 hA ha hg hN kk b u fl xs n o h0 (by omega) (by omega)
 ·have ew : ((((⟨#[112, 114, 117, 110, 101, 32]⟩ : ByteArray) ++ (⟨#[98, 97, 114, 114, 101, 110]⟩)) ++ (⟨#[32]⟩)) ++ (if q.2.2.2.2.2.1 = true then (⟨#[111, 110]⟩ : ByteArray) else ⟨#[111, 102, 102]⟩)) = barrenT ++ swT q.2.2.2.2.2.1 := by cases q.2.2.2.2.2.1 <;> rfl
  have es : (if q.2.2.2.2.2.1 = true then (⟨#[111, 110]⟩ : ByteArray) else ⟨#[111, 102, 102]⟩).size ≤ 3 := by cases q.2.2.2.2.2.1 <;> decide
  have ez : (barrenT ++ swT q.2.2.2.2.2.1).size ≤ 16 := by cases q.2.2.2.2.2.1 <;> decide
  rw [if_pos (by rw [decide_eq_false hb]; decide), if_neg hb, if_neg hb, chk_pos (by rw [e1, e2]; decide), chk_pos (by rw [ByteArray.size_append, e1, e2, e3]; decide), oB, oB, mget_sw, chk_pos (by rw [ByteArray.size_append, ByteArray.size_append, e1, e2, e3]; simp only [maxLen]; omega), ew, wcommand_eq (by show xs.length + _ + _ ≤ _; omega), oB]
  dsimp only
  rw [w64 (by omega)]
  obtain ⟨fl', ih⟩ := text_J5 hA ha hg hN kk b u true (xs ++ sints ((barrenT ++ swT q.2.2.2.2.2.1) ++ semi)) (n + 1) o (by omega) (by omega) (by rw [nA, sints_len, ByteArray.size_append, semi_size]; omega)
  refine ⟨fl', ih.trans ?_⟩
  rw [sints_app (_ ++ semi), List.append_assoc, show n + 1 + (((if q.2.2.2.2.2.2 = b then 0 else 1) + bodyN q : Nat) : Int) = n + ((1 + ((if q.2.2.2.2.2.2 = b then 0 else 1) + bodyN q) : Nat) : Int) by omega]
include ho
theorem text_J3 (kk : Bool → List Int → Int → Bool → ByteArray → Bool → Bool → Option (ByteArray × Int)) (a b : Bool) (u : ByteArray) (fl : Bool) (xs : List Int) (n : Int) (o : Bool) (h0 : 0 ≤ n) (h1 : n + A + 3 < 4611686018427387904) (h2 : xs.length + (A + 2) * tq q ≤ 140737488355328) :
  ∃ fl', m_query_Text_J3 N u a b kk q fl xs n o = kk fl' (xs ++ sints (stepT u a b q)) (n + stepN u a b q) ((o || !(howB q && ordB q)) || oddB q) (useT q) q.2.2.2.2.2.1 q.2.2.2.2.2.2 := by
 have h5 : (A + 1) * (szP q.2.1 + szP q.2.2.1 + 20) ≤ (A + 1) * tq q := Nat.mul_le_mul_left _ (by rw [tq]; omega)
 have h6 : szT q.2.2.2.2.1 + 130 ≤ tq q := by rw [tq]; omega
 have h7 := useT_size q
 rw [show A + 2 = (A + 1) + 1 from rfl, Nat.add_mul (A + 1), Nat.one_mul] at h2
 rw [m_query_Text_J3, wuses_eq (by exact ho) (show szT q.2.2.2.2.1 < N by omega), oB, stepT, stepN, useC]
 dsimp only
 by_cases hu : useT q = u
 ·obtain ⟨fl', ih⟩ := text_J4 hA ha hg hN kk a b u fl xs n (o || !(howB q && ordB q)) h0 (by omega) (by omega)
  refine ⟨fl', ?_⟩
  rw [if_neg (by rw [decide_eq_true (show useT (q.1, q.2.1, q.2.2.1, q.2.2.2.1, q.2.2.2.2.1, (q.2.2.2.2.2.1, q.2.2.2.2.2.2)) = u from hu)]; decide), if_pos hu, if_pos hu, nil_appB, ByteArray.append_assoc, Nat.zero_add, Nat.add_assoc, hu]
  exact ih
 ·rw [if_pos (by rw [decide_eq_false (show ¬ useT (q.1, q.2.1, q.2.2.1, q.2.2.2.1, q.2.2.2.2.1, (q.2.2.2.2.2.1, q.2.2.2.2.2.2)) = u from hu)]; decide), if_neg hu, if_neg hu]
  have hc : m_query_writer_command ((fl, xs), n, o || !(howB q && ordB q)) (useT q) = some ((true, xs ++ sints (useT q ++ semi)), IntKind.i64.wrap (n + 1), o || !(howB q && ordB q)) := wcommand_eq (by show xs.length + _ + _ ≤ _; omega)
  have hc2 : m_query_writer_command ((fl, xs), n, o || !(howB (q.1, q.2.1, q.2.2.1, q.2.2.2.1, q.2.2.2.2.1, (q.2.2.2.2.2.1, q.2.2.2.2.2.2)) && ordB (q.1, q.2.1, q.2.2.1, q.2.2.2.1, q.2.2.2.2.1, (q.2.2.2.2.2.1, q.2.2.2.2.2.2)))) (useT (q.1, q.2.1, q.2.2.1, q.2.2.2.1, q.2.2.2.2.1, (q.2.2.2.2.2.1, q.2.2.2.2.2.2))) = some ((true, xs ++ sints (useT q ++ semi)), IntKind.i64.wrap (n + 1), o || !(howB q && ordB q)) := hc
  rw [hc2, oB]
  dsimp only
  rw [w64 (by omega)]
  obtain ⟨fl', ih⟩ := text_J4 hA ha hg hN kk a b (useT q) true (xs ++ sints (useT q ++ semi)) (n + 1) (o || !(howB q && ordB q)) (by omega) (by omega) (by rw [nA, sints_len, ByteArray.size_append, semi_size]; omega)
  refine ⟨fl', ih.trans ?_⟩
  rw [List.append_assoc, ← sints_app]
  simp only [ByteArray.append_assoc]
  rw [show n + 1 + (((if q.2.2.2.2.2.1 = a then 0 else 1) + ((if q.2.2.2.2.2.2 = b then 0 else 1) + bodyN q) : Nat) : Int) = n + ((1 + (if q.2.2.2.2.2.1 = a then 0 else 1) + (if q.2.2.2.2.2.2 = b then 0 else 1) + bodyN q : Nat) : Int) by omega]
end
structure QBd (A : Nat) (q : QryV) : Prop where
 n : q.2.1.length ≤ A
 t : tq q ≤ 68719476736
theorem QBd.a {A : Nat} {q : QryV} (h : QBd A q) : szP q.2.1 ≤ 1099511627776 := by have := h.t; rw [tq] at this; omega
theorem QBd.g {A : Nat} {q : QryV} (h : QBd A q) : szP q.2.2.1 ≤ 1099511627776 := by have := h.t; rw [tq] at this; omega
theorem QBd.o {A : Nat} {q : QryV} (h : QBd A q) : szT q.2.2.2.2.1 ≤ 1099511627776 := by have := h.t; rw [tq] at this; omega
def scrR (bad : Bool) (s : ByteArray) : ByteArray × Int := if bad = true then (⟨#[]⟩, 50) else (s, 0)
theorem stepN_le {A : Nat} {q : QryV} (h : q.2.1.length ≤ A) (u : ByteArray) (a b : Bool) : stepN u a b q ≤ A + 4 := by
 have hb : bodyN q ≤ A + 1 := by
  rw [bodyN]
  split
  ·omega
  ·split
   ·omega
   ·split <;> omega
 rw [stepN]
 split <;> split <;> split <;> omega
section
variable {N A : Nat} (hN : 1099511627776 < N) (hA2 : A ≤ 1099511627776)
include hN hA2
theorem prog_L1 : ∀ (l : List QryV) (fl : Bool) (s : ByteArray) (n : Int) (o : Bool) (u : ByteArray) (a b : Bool), (∀ q ∈ l, QBd A q) → 0 ≤ n → n + l.length * (A + 4) < 4611686018427387904 → s.size + (A + 2) * tqs l ≤ 140737488355328 →
  m_query_Text_L1 N l fl (sints s) n o u a b = some (scrR (o || !(l.all goodQ) || decide (4096 < n + scrN l u a b)) (s ++ scrT l u a b))
 | [], fl, s, n, o, u, a, b, _, h0, h1, h2 => by
  rw [m_query_Text_L1.eq_1, scrT, scrN, app_nilB]
  cases o with
  | true => rw [if_pos rfl, m_query_Text_J1, if_pos rfl]; rfl
  | false =>
   rw [if_neg (by decide), m_query_Text_J1]
   by_cases h : 4096 < n
   ·rw [if_pos (dT h), decide_eq_true (by omega), Bool.or_true]; rfl
   ·rw [if_neg (dF h), decide_eq_false (by omega), m_bstr, chk_pos fun x hx => sints_rng hx, oB, bstr_sints]; rfl
 | q :: l, fl, s, n, o, u, a, b, h, h0, h1, h2 => by
  have hq := h q List.mem_cons_self
  rw [nC, show ((l.length + 1 : Nat) : Int) * ((A : Int) + 4) = l.length * ((A : Int) + 4) + (A + 4) by rw [Int.natCast_add, Int.add_mul]; omega] at h1
  have hL : (0 : Int) ≤ l.length * ((A : Int) + 4) := Int.mul_nonneg (by omega) (by omega)
  rw [tqs_cons, Nat.mul_add] at h2
  have hz := stepT_size hq.n u a b
  have hn : stepN u a b q ≤ A + 4 := stepN_le hq.n _ _ _
  have step : ∃ fl', m_query_Text_L1 N (q :: l) fl (sints s) n o u a b = m_query_Text_L1 N l fl' (sints (s ++ stepT u a b q)) (n + stepN u a b q) (o || !goodQ q) (useT q) q.2.2.2.2.2.1 q.2.2.2.2.2.2 := by
   rw [m_query_Text_L1.eq_2, sints_app]
   cases o with
   | true =>
    rw [if_pos rfl]
    obtain ⟨fl', ih⟩ := text_J3 hq.n hq.a hq.g hq.o hN (m_query_Text_L1 N l) a b u fl (sints s) n true h0 (by omega) (by rw [sints_len]; omega)
    exact ⟨fl', by rw [ih]; simp⟩
   | false =>
    have hf : m_query_fits (q.1, q.2.1, q.2.2.1, q.2.2.2.1, q.2.2.2.2.1, (q.2.2.2.2.2.1, q.2.2.2.2.2.2)) = some (fitsB q) := fits_eq q
    rw [if_neg (by decide), hf, oB]
    obtain ⟨fl', ih⟩ := text_J3 hq.n hq.a hq.g hq.o hN (m_query_Text_L1 N l) a b u fl (sints s) n (!fitsB q) h0 (by omega) (by rw [sints_len]; omega)
    refine ⟨fl', ih.trans ?_⟩
    congr 1
    rw [goodQ]
    cases fitsB q <;> cases howB q <;> cases ordB q <;> cases oddB q <;> rfl
  obtain ⟨fl', hst⟩ := step
  rw [hst, prog_L1 l fl' _ _ _ _ _ _ (fun x hx => h x (List.mem_cons_of_mem _ hx)) (by omega) (by omega) (by rw [ByteArray.size_append]; omega), scrT, scrN, List.all_cons, ByteArray.append_assoc]
  congr 2
  ·rw [show n + (stepN u a b q : Int) + (scrN l (useT q) q.2.2.2.2.2.1 q.2.2.2.2.2.2 : Int) = n + ((stepN u a b q + scrN l (useT q) q.2.2.2.2.2.1 q.2.2.2.2.2.2 : Nat) : Int) by omega]
   cases o <;> cases goodQ q <;> simp
omit hN hA2 in
theorem app_semi {a b : ByteArray} (h : a ++ semi = b ++ semi) : a = b := by
 apply bytes_ext
 have := congrArg (fun x : ByteArray => x.data.toList) h
 simp only [ByteArray.toList_data_append] at this
 exact List.append_cancel_right this
omit hN hA2 in
theorem doc_J6 {q : QryV} (hf : fitsB q = true) (kk : ByteArray → Int → Int → PairsV → PairsV → Int → List ByteArray → Bool → Bool → Int → Option (ByteArray × Int)) (i : Nat) (hi : i < 1099511627777) (names : List ByteArray) (s : ByteArray) (n : Int) (h0 : 0 ≤ n ∧ n < 4611686018427387904) (hs : s.size + (bodyT q).size ≤ 140737488355328) :
  m_r23_Text_J6 (i : Int) kk q (bodyT q, names) s n = kk (s ++ bodyT q) (n + bodyN q) q.1 q.2.1 q.2.2.1 q.2.2.2.1 q.2.2.2.2.1 q.2.2.2.2.2.1 q.2.2.2.2.2.2 ((i + 1 : Nat) : Int) := by
 have hb : bodyN q = 1 := by
  rw [bodyN]
  rw [fitsB] at hf
  by_cases k1 : q.1 = 1
  ·rw [if_pos k1]
  ·by_cases k2 : q.1 = 2
   ·rw [if_neg k1, if_pos k2]
   ·by_cases k3 : q.1 = 3
    ·rw [if_neg k1, if_neg k2, if_pos k3] at hf
     rw [if_neg k1, if_neg k2, if_pos k3]; exact of_decide_eq_true hf
    ·rw [if_neg k1, if_neg k2, if_neg k3] at hf; cases hf
 rw [m_r23_Text_J6, chk_pos (by simp only [maxLen]; omega), m_r23_Text_J1, w64 (by omega), w64 (by omega), hb]
 rfl
omit hN hA2 in
theorem doc_J5 {q : QryV} (hf : fitsB q = true) (kk : ByteArray → Int → Int → PairsV → PairsV → Int → List ByteArray → Bool → Bool → Int → Option (ByteArray × Int)) (b : Bool) (i : Nat) (hi : i < 1099511627777) (names : List ByteArray) (s : ByteArray) (n : Int) (h0 : 0 ≤ n ∧ n + 1 < 4611686018427387904) (hs : s.size + 17 + (bodyT q).size ≤ 140737488355328) :
  m_r23_Text_J5 b (i : Int) kk q (bodyT q, names) s n = kk (s ++ (prnC apartT b q.2.2.2.2.2.2 ++ bodyT q)) (n + (((if q.2.2.2.2.2.2 = b then 0 else 1) + bodyN q : Nat) : Int)) q.1 q.2.1 q.2.2.1 q.2.2.2.1 q.2.2.2.2.1 q.2.2.2.2.2.1 q.2.2.2.2.2.2 ((i + 1 : Nat) : Int) := by
 have e1 : (⟨#[112, 114, 117, 110, 101, 32, 97, 112, 97, 114, 116]⟩ : ByteArray).size = 11 := rfl
 have hw := swT_size q.2.2.2.2.2.2
 rw [m_r23_Text_J5, prnC]
 by_cases hb : q.2.2.2.2.2.2 = b
 ·rw [if_neg (by rw [decide_eq_true hb]; decide), if_pos hb, if_pos hb, nil_appB, Nat.zero_add]
  exact doc_J6 hf kk i hi names s n (by omega) (by omega)
 ·rw [if_pos (by rw [decide_eq_false hb]; decide), if_neg hb, if_neg hb, chk_pos (by rw [e1]; simp only [maxLen]; omega), switched_eq, oB, chk_pos (by rw [ByteArray.size_append, ByteArray.size_append, e1, semi_size]; simp only [maxLen]; omega), w64 (by omega),
   doc_J6 hf kk i hi names _ _ (by omega) (by rw [ByteArray.size_append, ByteArray.size_append, ByteArray.size_append, e1, semi_size]; omega)]
  simp only [ByteArray.append_assoc]
  rw [show n + 1 + (bodyN q : Int) = n + ((1 + bodyN q : Nat) : Int) by omega]
omit hN hA2 in
theorem doc_J4 {q : QryV} (hf : fitsB q = true) (kk : ByteArray → Int → Int → PairsV → PairsV → Int → List ByteArray → Bool → Bool → Int → Option (ByteArray × Int)) (a b : Bool) (i : Nat) (hi : i < 1099511627777) (names : List ByteArray) (s : ByteArray) (n : Int) (h0 : 0 ≤ n ∧ n + 2 < 4611686018427387904) (hs : s.size + 35 + (bodyT q).size ≤ 140737488355328) :
  m_r23_Text_J4 a b (i : Int) kk q (bodyT q, names) s n = kk (s ++ (prnC barrenT a q.2.2.2.2.2.1 ++ (prnC apartT b q.2.2.2.2.2.2 ++ bodyT q))) (n + (((if q.2.2.2.2.2.1 = a then 0 else 1) + ((if q.2.2.2.2.2.2 = b then 0 else 1) + bodyN q) : Nat) : Int)) q.1 q.2.1 q.2.2.1 q.2.2.2.1 q.2.2.2.2.1 q.2.2.2.2.2.1 q.2.2.2.2.2.2 ((i + 1 : Nat) : Int) := by
 have e1 : (⟨#[112, 114, 117, 110, 101, 32, 98, 97, 114, 114, 101, 110]⟩ : ByteArray).size = 12 := rfl
 have hw := swT_size q.2.2.2.2.2.1
 rw [m_r23_Text_J4, prnC]
 by_cases hb : q.2.2.2.2.2.1 = a
 ·rw [if_neg (by rw [decide_eq_true hb]; decide), if_pos hb, if_pos hb, nil_appB, Nat.zero_add]
  exact doc_J5 hf kk b i hi names s n (by omega) (by omega)
 ·rw [if_pos (by rw [decide_eq_false hb]; decide), if_neg hb, if_neg hb, chk_pos (by rw [e1]; simp only [maxLen]; omega), switched_eq, oB, chk_pos (by rw [ByteArray.size_append, ByteArray.size_append, e1, semi_size]; simp only [maxLen]; omega), w64 (by omega),
   doc_J5 hf kk b i hi names _ _ (by omega) (by rw [ByteArray.size_append, ByteArray.size_append, ByteArray.size_append, e1, semi_size]; omega)]
  simp only [ByteArray.append_assoc]
  rw [show n + 1 + (((if q.2.2.2.2.2.2 = b then 0 else 1) + bodyN q : Nat) : Int) = n + ((1 + ((if q.2.2.2.2.2.2 = b then 0 else 1) + bodyN q) : Nat) : Int) by omega]
theorem doc_L1 (L : List QryV) (hL : L.length ≤ 1099511627776) : ∀ (l : List QryV) (f i : Nat) (s : ByteArray) (n : Int) (B : QryV) (u : ByteArray), L.drop i = l → i ≤ L.length → L.length < f + i → (∀ q ∈ l, QBd A q) → 0 ≤ n → n + l.length * (A + 4) < 4611686018427387904 → s.size + (A + 2) * tqs l ≤ 140737488355328 →
  howB B = true → szT B.2.2.2.2.1 ≤ 1099511627776 → useT B = u →
  m_r23_Text_L1 N L f s n B.1 B.2.1 B.2.2.1 B.2.2.2.1 B.2.2.2.2.1 B.2.2.2.2.2.1 B.2.2.2.2.2.2 (i : Int) = some (scrR (!(l.all goodQ) || decide (4096 < n + scrN l u B.2.2.2.2.2.1 B.2.2.2.2.2.2)) (s ++ scrT l u B.2.2.2.2.2.1 B.2.2.2.2.2.2))
 | [], f, i, s, n, B, u, hd, hi, hf, h, h0, h1, h2, hB, hBo, hu => by
  have hil : L.length ≤ i := by
   rcases Nat.lt_or_ge i L.length with h | h
   ·rw [List.drop_eq_getElem_cons h] at hd; cases hd
   ·exact h
  obtain ⟨f', rfl⟩ : ∃ f', f = f' + 1 := ⟨f - 1, by omega⟩
  rw [m_r23_Text_L1.eq_2, if_neg (dF (by omega)), scrT, scrN, app_nilB]
  by_cases h : 4096 < n
  ·rw [if_pos (dT h), decide_eq_true (by omega), Bool.or_true]; rfl
  ·rw [if_neg (dF h), decide_eq_false (by omega)]; rfl
 | q :: l, f, i, s, n, B, u, hd, hi, hf, h, h0, h1, h2, hB, hBo, hu => by
  have hq := h q List.mem_cons_self
  have hil : i < L.length := by
   rcases Nat.lt_or_ge i L.length with h | h
   ·exact h
   ·rw [List.drop_eq_nil_of_le h] at hd; cases hd
  have hd2 := List.drop_eq_getElem_cons hil
  rw [hd] at hd2
  obtain ⟨hx, hl2⟩ := List.cons.inj hd2
  obtain ⟨f', rfl⟩ : ∃ f', f = f' + 1 := ⟨f - 1, by omega⟩
  rw [nC, show ((l.length + 1 : Nat) : Int) * ((A : Int) + 4) = l.length * ((A : Int) + 4) + (A + 4) by rw [Int.natCast_add, Int.add_mul]; omega] at h1
  have hLm : (0 : Int) ≤ l.length * ((A : Int) + 4) := Int.mul_nonneg (by omega) (by omega)
  rw [tqs_cons, Nat.mul_add] at h2
  have hz := stepT_size hq.n u B.2.2.2.2.2.1 B.2.2.2.2.2.2
  have hqt := hq.t
  have hqg := hq.g
  have hqa := hq.a
  have hqo := hq.o
  have huz := useT_size q
  have e5 : m_r23_shape (q.1, q.2.1, q.2.2.1, q.2.2.2.1, q.2.2.2.2.1, (q.2.2.2.2.2.1, q.2.2.2.2.2.2)) = some (fitsB q) := shape_eq q
  have e6 : m_r23_uses N (q.1, q.2.1, q.2.2.1, q.2.2.2.1, q.2.2.2.2.1, (q.2.2.2.2.2.1, q.2.2.2.2.2.2)) = some (if howB q = true then useT q ++ semi else ⟨#[]⟩) := ruses_eq (q := q) hqo (by omega)
  rw [m_r23_Text_L1.eq_2, if_pos (dT (by omega)), at?_lt hil, oB, ← hx, e5, oB, e6, oB, List.all_cons]
  cases h5 : fitsB q with
  | false =>
   rw [if_pos (by decide), m_r23_Text_J2, if_pos rfl, goodQ, h5]; rfl
  | true =>
   rw [if_neg (by decide)]
   cases h6 : howB q with
   | false =>
    rw [if_neg (by decide), decide_eq_true rfl, m_r23_Text_J2, if_pos rfl, goodQ, h5, h6]; rfl
   | true =>
    have hne : ¬ (useT q ++ semi = (⟨#[]⟩ : ByteArray)) := fun e => by
     have := congrArg ByteArray.size e
     rw [ByteArray.size_append, semi_size] at this
     exact absurd this (by rw [show (⟨#[]⟩ : ByteArray).size = 0 from rfl]; omega)
    have e7 : m_r23_say N (q.1, q.2.1, q.2.2.1, q.2.2.2.1, q.2.2.2.2.1, (q.2.2.2.2.2.1, q.2.2.2.2.2.2)) = some (bodyT q, namesL q) := say_eq hqa hqg hN h5
    have hnz := namesL_szT q
    have hnl := szT_len (namesL q)
    have htq : szP q.2.1 + szP q.2.2.1 + szT q.2.2.2.2.1 + 130 = tq q := rfl
    have hol := szT_len q.2.2.2.2.1
    have hgood : goodQ q = (ordB q && !oddB q) := by rw [goodQ, h5, h6]; rfl
    rw [if_pos rfl, decide_eq_false hne, m_r23_Text_J2, if_neg (by decide), e7, oB]
    -- the names
    have key : ∀ names : List ByteArray, szT names ≤ 1099511627776 → names.all nameB = goodQ q →
      m_r23_Text_J3 N s n B.1 B.2.1 B.2.2.1 B.2.2.2.1 B.2.2.2.2.1 B.2.2.2.2.2.1 B.2.2.2.2.2.2 (i : Int) (m_r23_Text_L1 N L f') q (useT q ++ semi) (bodyT q, namesL q) names = some (scrR (!(goodQ q && l.all goodQ) || decide (4096 < n + scrN (q :: l) u B.2.2.2.2.2.1 B.2.2.2.2.2.2)) (s ++ scrT (q :: l) u B.2.2.2.2.2.1 B.2.2.2.2.2.2)) := by
     intro names hns hng
     have hbz : (bodyT q).size ≤ (stepT u B.2.2.2.2.2.1 B.2.2.2.2.2.2 q).size := by rw [stepT, ByteArray.size_append]; omega
     have hmul : 2 * 130 ≤ (A + 2) * tq q := Nat.mul_le_mul (by omega) (by rw [tq]; omega)
     have hbm := bodyT_size hq.n
     have h5' : (A + 1) * (szP q.2.1 + szP q.2.2.1 + 20) ≤ (A + 1) * tq q := Nat.mul_le_mul_left _ (by rw [tq]; omega)
     have h6' : szT q.2.2.2.2.1 + 130 ≤ tq q := by rw [tq]; omega
     have h7' : (A + 2) * tq q = (A + 1) * tq q + tq q := by rw [show A + 2 = (A + 1) + 1 from rfl, Nat.add_mul (A + 1), Nat.one_mul]
     rw [m_r23_Text_J3, ref_named_eq hns (by omega), oB, hng]
     cases hgd : goodQ q with
     | false => rw [if_pos (by decide)]; rfl
     | true =>
      have e8 : m_r23_uses N (B.1, B.2.1, B.2.2.1, B.2.2.2.1, B.2.2.2.2.1, (B.2.2.2.2.2.1, B.2.2.2.2.2.2)) = some (useT B ++ semi) := by
       have := ruses_eq (N := N) (q := B) hBo (by omega)
       rw [hB, if_pos rfl] at this
       exact this
      rw [if_neg (by decide), e8, oB, hu, Bool.true_and]
      have ih := doc_L1 L hL l f' (i + 1) (s ++ stepT u B.2.2.2.2.2.1 B.2.2.2.2.2.2 q) (n + stepN u B.2.2.2.2.2.1 B.2.2.2.2.2.2 q) q (useT q) hl2.symm (by omega) (by omega) (fun x hx => h x (List.mem_cons_of_mem _ hx)) (by omega) (by
       have hn : stepN u B.2.2.2.2.2.1 B.2.2.2.2.2.2 q ≤ A + 4 := stepN_le hq.n _ _ _
       omega) (by rw [ByteArray.size_append]; omega) h6 hqo rfl
      have hfin : scrR (!(l.all goodQ) || decide (4096 < n + (stepN u B.2.2.2.2.2.1 B.2.2.2.2.2.2 q : Int) + (scrN l (useT q) q.2.2.2.2.2.1 q.2.2.2.2.2.2 : Int))) (s ++ stepT u B.2.2.2.2.2.1 B.2.2.2.2.2.2 q ++ scrT l (useT q) q.2.2.2.2.2.1 q.2.2.2.2.2.2) = scrR (!(l.all goodQ) || decide (4096 < n + (scrN (q :: l) u B.2.2.2.2.2.1 B.2.2.2.2.2.2 : Int))) (s ++ scrT (q :: l) u B.2.2.2.2.2.1 B.2.2.2.2.2.2) := by
       rw [scrT, scrN, ByteArray.append_assoc, show n + (stepN u B.2.2.2.2.2.1 B.2.2.2.2.2.2 q : Int) + (scrN l (useT q) q.2.2.2.2.2.1 q.2.2.2.2.2.2 : Int) = n + ((stepN u B.2.2.2.2.2.1 B.2.2.2.2.2.2 q + scrN l (useT q) q.2.2.2.2.2.1 q.2.2.2.2.2.2 : Nat) : Int) by omega]
      rw [hfin] at ih
      rw [← ih]
      by_cases hus : useT q = u
      ·rw [if_neg (by rw [hus, decide_eq_true rfl]; decide), doc_J4 h5 _ _ _ i (by omega) _ s n (by omega) (by omega), stepT, stepN, useC, if_pos hus, if_pos hus, nil_appB, Nat.zero_add, Nat.add_assoc, ByteArray.append_assoc]
      ·rw [if_pos (by rw [decide_eq_false fun e => hus (app_semi e)]; decide), chk_pos (by rw [ByteArray.size_append, semi_size]; simp only [maxLen]; omega), w64 (by omega), doc_J4 h5 _ _ _ i (by omega) _ _ _ (by omega) (by rw [ByteArray.size_append, ByteArray.size_append, semi_size]; omega), stepT, stepN, useC, if_neg hus, if_neg hus]
       simp only [ByteArray.append_assoc]
       rw [show n + 1 + (((if q.2.2.2.2.2.1 = B.2.2.2.2.2.1 then 0 else 1) + ((if q.2.2.2.2.2.2 = B.2.2.2.2.2.2 then 0 else 1) + bodyN q) : Nat) : Int) = n + ((1 + (if q.2.2.2.2.2.1 = B.2.2.2.2.2.1 then 0 else 1) + (if q.2.2.2.2.2.2 = B.2.2.2.2.2.2 then 0 else 1) + bodyN q : Nat) : Int) by omega]
    by_cases h3 : q.2.2.2.1 = 3
    ·rw [if_pos (dT h3), chk_pos (by simp only [maxLen]; omega)]
     refine key _ (by dsimp only; rw [szT_app]; omega) ?_
     dsimp only
     rw [List.all_append, names_good h5, hgood, ordB, decide_eq_true h3, Bool.not_true, Bool.false_or, Bool.and_comm]
    ·rw [if_neg (dF h3)]
     refine key _ (by dsimp only; omega) ?_
     dsimp only
     rw [names_good h5, hgood, ordB, decide_eq_false h3]; rfl
theorem text_both (l : List QryV) (hl : l.length ≤ 1099511627776) (h : ∀ q ∈ l, QBd A q) (h1 : l.length * (A + 4) < 4611686018427387904) (h2 : (A + 2) * tqs l ≤ 140737488355328) (hlN : l.length < N) :
  m_query_Text N l = some (scrR (!(l.all goodQ) || decide (4096 < scrN l ⟨#[117, 115, 101, 32, 102, 105, 108, 108]⟩ false false)) (scrT l ⟨#[117, 115, 101, 32, 102, 105, 108, 108]⟩ false false)) ∧
  m_r23_Text N l = some (scrR (!(l.all goodQ) || decide (4096 < scrN l ⟨#[117, 115, 101, 32, 102, 105, 108, 108]⟩ false false)) (scrT l ⟨#[117, 115, 101, 32, 102, 105, 108, 108]⟩ false false)) := by
 have e0 : decide ((4096 : Int) < 0 + ((scrN l ⟨#[117, 115, 101, 32, 102, 105, 108, 108]⟩ false false : Nat) : Int)) = decide (4096 < scrN l ⟨#[117, 115, 101, 32, 102, 105, 108, 108]⟩ false false) := decide_eq_decide.2 (by omega)
 have h3 : (0 : Int) + l.length * ((A : Int) + 4) < 4611686018427387904 := by
  have := Int.ofNat_lt.2 h1
  rw [Int.natCast_mul] at this
  simpa using this
 constructor
 ·have := prog_L1 hN hA2 l false ⟨#[]⟩ 0 false ⟨#[117, 115, 101, 32, 102, 105, 108, 108]⟩ false false h (by omega) h3 (by rw [show (⟨#[]⟩ : ByteArray).size = 0 from rfl]; omega)
  rw [e0, nil_appB] at this
  exact this
 ·have := doc_L1 hN hA2 l hl l N 0 ⟨#[]⟩ 0 (0, [], [], 1, [], (false, false)) ⟨#[117, 115, 101, 32, 102, 105, 108, 108]⟩ rfl (by omega) (by omega) h (by omega) h3 (by rw [show (⟨#[]⟩ : ByteArray).size = 0 from rfl]; omega) rfl (Nat.zero_le _) rfl
  dsimp only at this
  rw [e0, nil_appB] at this
  exact this
end

end Go.Proofs.Ytnfegieaaaigmaa
