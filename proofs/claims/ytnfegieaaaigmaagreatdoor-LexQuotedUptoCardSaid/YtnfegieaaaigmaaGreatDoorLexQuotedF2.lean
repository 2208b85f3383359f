/-
  What functions of the program compute, as plain Lean functions (m_..), and proofs that they compute it (c_..). Printed by a program of the author; no conditions.
-/
import Derived.Test.YtnfegieaaaigmaaGreatDoorLexQuotedBFloat
import Derived.Test.YtnfegieaaaigmaaGreatDoorProg
import Derived.Test.YtnfegieaaaigmaaGreatDoorLexQuotedBBrief
import Derived.Test.YtnfegieaaaigmaaGreatDoorLexQuotedBEq4
import Derived.Test.YtnfegieaaaigmaaGreatDoorLexQuotedBErr
import Derived.Test.YtnfegieaaaigmaaGreatDoorLexQuotedF1
set_option linter.unusedVariables false
set_option linter.unusedSectionVars false
set_option maxRecDepth 100000
set_option maxHeartbeats 2000000
namespace Go.Proofs.YtnfegieaaaigmaaGreatDoor
open Go Go.RowKit

def m_l06_LexQuoted_J1 (v_19 : Bool) : Option Bool :=
  some v_19
def m_l06_LexQuoted_J2 (v_99 : Bool) : Option Bool :=
  some v_99
def m_l06_LexQuoted_L1 (N : Nat) (p0_s : ByteArray) (r_1 : Bool) (r_5 : ByteArray) : Nat → Int → Option Bool
  | 0, _ => none
  | n_9 + 1, i_12 => if (decide (i_12 < (p0_s.size : Int))) = true then ((bat? p0_s i_12).bind fun e_13 => if (decide (e_13 = 10)) = true then (if r_1 = true then (m_l06_LexQuoted_J1 (decide (r_5 = (⟨#[]⟩)))) else (m_l06_LexQuoted_J1 false)) else ((m_l06_LexQuoted_L1 N p0_s r_1 r_5 n_9) (IntKind.i64.wrap (i_12 + 1)))) else ((m_lex_Scan N r_5).bind fun r_21 => if r_1 = true then (if (!r_21.2.isSome) = true then (if (decide ((r_21.1.length : Int) = 2)) = true then ((at? r_21.1 0).bind fun e_103 => if (decide (e_103.1 = 3) && decide (e_103.2.1 = p0_s) && decide (e_103.2.2.1 = 1) && decide (e_103.2.2.2 = 1)) = true then ((at? r_21.1 1).bind fun e_114 => if (decide (e_114.1 = 0)) = true then (m_l06_LexQuoted_J2 (decide (e_114.2.2.2 = (IntKind.i64.wrap ((r_5.size : Int) + 1))))) else (m_l06_LexQuoted_J2 false)) else (m_l06_LexQuoted_J2 false)) else (m_l06_LexQuoted_J2 false)) else (m_l06_LexQuoted_J2 false)) else (m_l06_LexQuoted_J2 false))
termination_by structural x => x
def m_l06_LexQuoted (N : Nat) (p0_s : ByteArray) : Option Bool :=
  (m_l06_awake N).bind fun r_1 => if (decide (1048576 < (p0_s.size : Int))) = true then (some r_1) else ((m_quote p0_s).bind fun r_5 => m_l06_LexQuoted_L1 N p0_s r_1 r_5 N 0)
theorem c_l06_LexQuoted (N : Nat) (col : Col) (w0 : World) (p0_s : ByteArray) (hgl : Gl (.iface 146 (.agg #[.pointer (some ⟨4, 30, none⟩)])) col w0) (r : Bool) (hm : m_l06_LexQuoted N p0_s = some r) :
    Calls Tryz.prog 7 #[(.string p0_s)] w0 (fun e w' => e = .returned ((.bool r)) ∧ Below w0.heap.size w0 w') := by
 refine calls_of1 2 (m := 70) Tryz.func7 rfl rfl rfl rfl rfl ?_;rw [m_l06_LexQuoted.eq_1] at hm;have hst := St.start col w0;refine go ?_;obtain ⟨r_1, hr_2, hm⟩ := bZ hm;replace hgl := hgl.keep (Stay.start col w0);refine lc rfl rfl (r_call0 Tryz.call10 ) (c_l06_awake hr_2 hgl :) ?_;rintro _ w_3 ⟨rfl, hg_4⟩;refine ⟨_, rfl, ?_⟩;replace hg_4 : Grow (col0 col) w0 (col0 col) w_3 := .of_below hg_4;refine go ?_;replace hgl := hgl.gr hg_4;replace hst := hst.grow hg_4;refine wcb hm (fun hb hm => go ?_) fun hb hm => go ?_
 ·cases hm;exact ⟨rfl, rfl, hst.below⟩
 obtain ⟨r_5, hr_6, hm⟩ := bZ hm;refine lcA (c_lex_Quote (col0 col) _ p0_s r_5 hr_6) ?_;rintro _ w_7 ⟨rfl, hg_8⟩;refine ⟨_, rfl, ?_⟩;replace hg_8 : Grow (col0 col) w_3 (col0 col) w_7 := .of_below hg_8;refine go ?_;replace hgl := hgl.gr hg_8;replace hst := hst.grow hg_8;refine wloopK [0, 3, 4, 1000000] (fun n f w_10 => ∃ col_11 i_12 n_9, n_9 = n ∧ m_l06_LexQuoted_L1 N p0_s r_1 r_5 n_9 i_12 = some r ∧ St w0 (col0 col) col_11 w_10 ∧ Gl (.iface 146 (.agg #[.pointer (some ⟨4, 30, none⟩)])) col_11 w_10 ∧ [5].map f = [.int .i64 i_12]) N ⟨_, 0, _, rfl, hm, hst, hgl, rfl⟩ ?_;clear hm; intro n f w_10 hI;obtain ⟨col_11, i_12, n_9, hn, hm, hst, hgl, hs⟩ := hI;subst hn;refine .lL [5] hs ?_
 cases n_9 with
 | zero => rw [m_l06_LexQuoted_L1.eq_1] at hm; cases hm
 | succ n_9 =>
  rw [m_l06_LexQuoted_L1.eq_2] at hm;refine go ?_;refine wcb hm (fun hb hm => go ?_) fun hb hm => go ?_
  ·obtain ⟨e_13, hj_14, hm⟩ := bZ hm;refine lV (.int .u8 e_13) (r_indexS (s := p0_s) Tryz.underlying9 rfl rfl hj_14) <| go ?_;refine wcb hm (fun hb hm => ?_) fun hb hm => go ?_
   ·refine wseq ?_;refine Wp.cutK [1000000] (fun f w_17 => ∃ col_18 v_19, m_l06_LexQuoted_J1 v_19 = some r ∧ St w0 (col0 col) col_18 w_17 ∧ Gl (.iface 146 (.agg #[.pointer (some ⟨4, 30, none⟩)])) col_18 w_17 ∧ [2].map f = [.bool v_19]) ?_ ?_
    ·intro f w_17 hJ;obtain ⟨col_18, v_19, hm, hst, hgl, hs⟩ := hJ;rw [m_l06_LexQuoted_J1.eq_1] at hm;refine .lL [2] hs <| wret ?_;cases hm;exact ⟨rfl, rfl, hst.below⟩
    refine go ?_;refine bcb hm (fun hg_20 hm => go ?_) fun hg_20 hm => go ?_
    ·refine lV (.bool (decide (r_5 = (⟨#[]⟩)))) (r_pickT (congrArg Value.bool hg_20) rfl) <| go ?_;exact ⟨rfl, _, _, hm, hst, hgl, rfl⟩
    refine lV (.bool false) (r_pickF (congrArg Value.bool hg_20) rfl) <| go ?_;exact ⟨rfl, _, _, hm, hst, hgl, rfl⟩
   exact ⟨n_9, by omega, rfl, ⟨_, _, _, rfl, hm, hst, hgl, rfl⟩⟩
  obtain ⟨r_21, hr_22, hm⟩ := bZ hm;refine lcA (c_lex_Scan 1 hr_22 hgl) ?_;rintro _ w_28 ⟨col_30, ra_23, rc_24, rv_26, rfl, hg_29, rh_25, rh_27⟩;refine ⟨_, rfl, ?_⟩;refine lM (.tuple #[(.slice ra_23 r_21.1.length rc_24), rv_26]) <| lV (.slice ra_23 r_21.1.length rc_24) (r_extract rfl rfl) <| lv (v := rv_26) rfl rfl (r_extract rfl rfl) <| lAS rfl <| lv (v := rv_26) rfl rfl (r_assign rfl) <| lnil <| wseq ?_;replace hgl := hgl.gr hg_29;replace hst := hst.grow hg_29;refine Wp.cutK [1000000] (fun f w_97 => ∃ col_98 v_99, m_l06_LexQuoted_J2 v_99 = some r ∧ St w0 (col0 col) col_98 w_97 ∧ Gl (.iface 146 (.agg #[.pointer (some ⟨4, 30, none⟩)])) col_98 w_97 ∧ [2].map f = [.bool v_99]) ?_ ?_
  ·intro f w_97 hJ;obtain ⟨col_98, v_99, hm, hst, hgl, hs⟩ := hJ;rw [m_l06_LexQuoted_J2.eq_1] at hm;refine .lL [2] hs <| wret ?_;cases hm;exact ⟨rfl, rfl, hst.below⟩
  refine go ?_;refine bcb hm (fun hg_100 hm => go ?_) fun hg_100 hm => go ?_
  ·refine lv (v := rv_26) rfl rfl (r_move rfl) <| go ?_;refine lV (.bool (!r_21.2.isSome)) (r_eqlE rh_27 Tryz.underlying30 rfl) <| lV (.bool (!r_21.2.isSome)) (r_pickT (congrArg Value.bool hg_100) rfl) <| lMB rfl ?_;refine bcb hm (fun hg_101 hm => go ?_) fun hg_101 hm => go ?_
   ·refine lV (.bool (decide ((r_21.1.length : Int) = 2))) (r_pickT (congrArg Value.bool hg_101) rfl) <| lMB rfl ?_;refine bcb hm (fun hg_102 hm => go ?_) fun hg_102 hm => go ?_
    ·obtain ⟨e_103, hj_104, hm⟩ := bZ hm;refine lI hj_104 (rh_25.addr hj_104) ?_;refine go ?_;obtain ⟨_, hr_105, hA_106⟩ := rh_25.atN hj_104;obtain ⟨_, _, rfl, hp_107, hp_108⟩ := hr_105.parts;obtain rfl := hp_107.int;obtain ⟨_, _, rfl, hp_109, hp_110⟩ := hp_108.parts;obtain rfl := hp_109.str;obtain ⟨_, _, rfl, hp_111, hp_112⟩ := hp_110.parts;obtain rfl := hp_111.int;obtain rfl := hp_112.int;refine lV (.agg #[(.int .i8 e_103.1), (.string e_103.2.1), (.int .i64 e_103.2.2.1), (.int .i64 e_103.2.2.2)]) (r_ldN Tryz.isAgg38 Tryz.sizeOf38 rfl rfl hA_106) <| go ?_;refine lV (.agg #[(.int .i8 3), (.string p0_s), (.int .i64 1), (.int .i64 1)]) (r_build (l := [_, _, _, _]) (qs := [(0, 1), (1, 1), (2, 1), (3, 1)]) Tryz.underlying38 Tryz.zeroValue38 ⟨rfl, Tryz.sizeOf36, rfl, Tryz.sizeOf9, rfl, Tryz.sizeOf3, rfl, Tryz.sizeOf3, trivial⟩ rfl) <| go ?_;refine lV (.bool (decide (e_103.1 = 3) && decide (e_103.2.1 = p0_s) && decide (e_103.2.2.1 = 1) && decide (e_103.2.2.2 = 1))) (r_eqlA rfl rfl (by decide +kernel) (eq_struct4 Tryz.underlying38 (by decide +kernel) (by decide) (by decide) (by decide) (by decide) (r_part Tryz.isAgg36 rfl) (r_part Tryz.isAgg36 rfl) (r_part Tryz.isAgg9 rfl) (r_part Tryz.isAgg9 rfl) (r_part Tryz.isAgg3 rfl) (r_part Tryz.isAgg3 rfl) (r_part Tryz.isAgg3 rfl) (r_part Tryz.isAgg3 rfl) (peq_int e_103.1 3 Tryz.underlying36) (peq_str e_103.2.1 p0_s Tryz.underlying9) (peq_int e_103.2.2.1 1 Tryz.underlying3) (peq_int e_103.2.2.2 1 Tryz.underlying3))) <| lV (.bool (decide (e_103.1 = 3) && decide (e_103.2.1 = p0_s) && decide (e_103.2.2.1 = 1) && decide (e_103.2.2.2 = 1))) (r_pickT (congrArg Value.bool hg_102) rfl) <| lMB rfl ?_;refine bcb hm (fun hg_113 hm => go ?_) fun hg_113 hm => go ?_
     ·obtain ⟨e_114, hj_115, hm⟩ := bZ hm;refine lI hj_115 (rh_25.addr hj_115) ?_;refine go ?_;refine lFa (sptr_addr (rh_25.addr hj_115)) ?_;refine go ?_;obtain ⟨_, hr_116, hA_117⟩ := rh_25.atN hj_115;obtain ⟨_, _, rfl, hp_118, hp_119⟩ := hr_116.parts;obtain rfl := hp_118.int;obtain ⟨_, _, rfl, hp_120, hp_121⟩ := hp_119.parts;obtain rfl := hp_120.str;obtain ⟨_, _, rfl, hp_122, hp_123⟩ := hp_121.parts;obtain rfl := hp_122.int;obtain rfl := hp_123.int;refine lW ((hA_117).nth (q := 0) rfl) <| go ?_;refine lV (.bool (decide (e_114.1 = 0))) (r_pickT (congrArg Value.bool hg_113) rfl) <| lMB rfl ?_;refine bcb hm (fun hg_124 hm => go ?_) fun hg_124 hm => go ?_
      ·refine lI hj_115 (rh_25.addr hj_115) ?_;refine go ?_;refine lFa (sptr_addr (rh_25.addr hj_115)) ?_;refine go ?_;obtain ⟨_, hr_125, hA_126⟩ := rh_25.atN hj_115;obtain ⟨_, _, rfl, hp_127, hp_128⟩ := hr_125.parts;obtain rfl := hp_127.int;obtain ⟨_, _, rfl, hp_129, hp_130⟩ := hp_128.parts;obtain rfl := hp_129.str;obtain ⟨_, _, rfl, hp_131, hp_132⟩ := hp_130.parts;obtain rfl := hp_131.int;obtain rfl := hp_132.int;refine lW ((hA_126).nth (q := 3) rfl) <| go ?_;refine lV (.bool (decide (e_114.2.2.2 = (IntKind.i64.wrap ((r_5.size : Int) + 1))))) (r_pickT (congrArg Value.bool hg_124) rfl) <| go ?_;exact ⟨rfl, _, _, hm, hst, hgl, rfl⟩
      refine lV (.bool false) (r_pickF (congrArg Value.bool hg_124) rfl) <| go ?_;exact ⟨rfl, _, _, hm, hst, hgl, rfl⟩
     refine lV (.bool false) (r_pickF (congrArg Value.bool hg_113) rfl) <| lMB rfl <| lP 60 rfl rfl <| lP 60 rfl rfl <| lP 60 rfl rfl <| lP 60 rfl rfl <| lP 60 rfl rfl <| lP 60 rfl rfl <| lP 60 rfl rfl <| lP 60 rfl rfl <| lV (.bool false) (r_pickF rfl rfl) <| go ?_;exact ⟨rfl, _, _, hm, hst, hgl, rfl⟩
    refine lV (.bool false) (r_pickF (congrArg Value.bool hg_102) rfl) <| lMB rfl <| lP 53 rfl rfl <| lP 53 rfl rfl <| lP 53 rfl rfl <| lP 53 rfl rfl <| lP 53 rfl rfl <| lV (.bool false) (r_pickF rfl rfl) <| lMB rfl <| lP 60 rfl rfl <| lP 60 rfl rfl <| lP 60 rfl rfl <| lP 60 rfl rfl <| lP 60 rfl rfl <| lP 60 rfl rfl <| lP 60 rfl rfl <| lP 60 rfl rfl <| lV (.bool false) (r_pickF rfl rfl) <| go ?_;exact ⟨rfl, _, _, hm, hst, hgl, rfl⟩
   refine lV (.bool false) (r_pickF (congrArg Value.bool hg_101) rfl) <| lMB rfl <| lP 45 rfl rfl <| lP 45 rfl rfl <| lP 45 rfl rfl <| lP 45 rfl rfl <| lP 45 rfl rfl <| lP 45 rfl rfl <| lV (.bool false) (r_pickF rfl rfl) <| lMB rfl <| lP 53 rfl rfl <| lP 53 rfl rfl <| lP 53 rfl rfl <| lP 53 rfl rfl <| lP 53 rfl rfl <| lV (.bool false) (r_pickF rfl rfl) <| lMB rfl <| lP 60 rfl rfl <| lP 60 rfl rfl <| lP 60 rfl rfl <| lP 60 rfl rfl <| lP 60 rfl rfl <| lP 60 rfl rfl <| lP 60 rfl rfl <| lP 60 rfl rfl <| lV (.bool false) (r_pickF rfl rfl) <| go ?_;exact ⟨rfl, _, _, hm, hst, hgl, rfl⟩
  refine lV (.bool false) (r_pickF (congrArg Value.bool hg_100) rfl) <| lMB rfl <| lP 40 rfl rfl <| lP 40 rfl rfl <| lP 40 rfl rfl <| lV (.bool false) (r_pickF rfl rfl) <| lMB rfl <| lP 45 rfl rfl <| lP 45 rfl rfl <| lP 45 rfl rfl <| lP 45 rfl rfl <| lP 45 rfl rfl <| lP 45 rfl rfl <| lV (.bool false) (r_pickF rfl rfl) <| lMB rfl <| lP 53 rfl rfl <| lP 53 rfl rfl <| lP 53 rfl rfl <| lP 53 rfl rfl <| lP 53 rfl rfl <| lV (.bool false) (r_pickF rfl rfl) <| lMB rfl <| lP 60 rfl rfl <| lP 60 rfl rfl <| lP 60 rfl rfl <| lP 60 rfl rfl <| lP 60 rfl rfl <| lP 60 rfl rfl <| lP 60 rfl rfl <| lP 60 rfl rfl ?_;refine lV (.bool false) (r_pickF rfl rfl) <| go ?_;exact ⟨rfl, _, _, hm, hst, hgl, rfl⟩
theorem qtS_esc : ∀ (xs r : List Int), 10 ∉ xs → qtS (escL xs ++ 34 :: r) = some ((escL xs).length + 1, xs)
 | [], r, _ => by
  rw [escL, List.nil_append, qtS_cons, if_pos rfl]; rfl
 | c :: xs, r, h => by
  have h1 : 10 ∉ xs := fun e => h (List.mem_cons_of_mem _ e)
  have h2 : c ≠ 10 := fun e => h (by rw [e]; exact List.mem_cons_self)
  have ih := qtS_esc xs r h1
  rw [escL]
  by_cases c92 : c = 92
  ·rw [if_pos c92, List.cons_append, List.cons_append, qtS_cons, if_neg (by decide), if_neg (by decide), if_pos rfl]
   dsimp only
   rw [if_pos (.inr rfl), ih, c92]; rfl
  ·rw [if_neg c92]
   by_cases c34 : c = 34
   ·rw [if_pos c34, List.cons_append, List.cons_append, qtS_cons, if_neg (by decide), if_neg (by decide), if_pos rfl]
    dsimp only
    rw [if_pos (.inl rfl), ih, c34]; rfl
   ·rw [if_neg c34, List.cons_append, qtS_cons, if_neg c34, if_neg h2, if_neg c92, ih]; rfl
theorem escL_nl : ∀ (xs : List Int), 10 ∉ xs → 10 ∉ escL xs
 | [], _ => by rw [escL]; simp
 | c :: xs, h => by
  have h1 : 10 ∉ xs := fun e => h (List.mem_cons_of_mem _ e)
  have h2 : c ≠ 10 := fun e => h (by rw [e]; exact List.mem_cons_self)
  have ih := escL_nl xs h1
  rw [escL]
  split
  ·simp only [List.mem_cons, not_or]; exact ⟨by decide, by decide, ih⟩
  ·split
   ·simp only [List.mem_cons, not_or]; exact ⟨by decide, by decide, ih⟩
   ·simp only [List.mem_cons, not_or]; exact ⟨fun e => h2 e.symm, ih⟩
theorem escL_two : ∀ (xs : List Int), (escL xs).length ≤ 2 * xs.length
 | [] => by rw [escL]; simp
 | c :: xs => by
  have ih := escL_two xs
  rw [escL, List.length_cons]
  split
  ·simp only [List.length_cons]; omega
  ·split <;> simp only [List.length_cons] <;> omega
theorem plc_nonl : ∀ (xs : List Int) (p : Int × Int), 10 ∉ xs → plc xs p = (p.1, p.2 + xs.length)
 | [], p, _ => by rw [List.length_nil]; show p = (p.1, p.2 + 0); rw [Int.add_zero]
 | x :: xs, p, h => by
  have h1 : 10 ∉ xs := fun e => h (List.mem_cons_of_mem _ e)
  have h2 : x ≠ 10 := fun e => h (by rw [e]; exact List.mem_cons_self)
  rw [plc_cons, if_neg h2, plc_nonl xs _ h1, List.length_cons]
  show (p.1, p.2 + 1 + (xs.length : Int)) = (p.1, p.2 + ((xs.length + 1 : Nat) : Int))
  congr 1; omega
def quoB (s : ByteArray) : ByteArray := bstr (34 :: (escL (sints s) ++ [34]))
theorem quoB_sints (s : ByteArray) : sints (quoB s) = 34 :: (escL (sints s) ++ [34]) := by
 rw [quoB, sints_bstr]
 intro x hx
 rcases List.mem_cons.1 hx with rfl | hx
 ·decide
 ·rcases List.mem_append.1 hx with hx | hx
  ·exact escL_rng (fun y hy => sints_rng hy) x hx
  ·rw [List.mem_singleton.1 hx]; decide
theorem quoB_size (s : ByteArray) : (quoB s).size = (escL (sints s)).length + 2 := by
 rw [← sints_len, quoB_sints, List.length_cons, List.length_append]; rfl
theorem tokS_quote {q s : ByteArray} {r : List Int} (hq : sints q = 34 :: (escL (sints s) ++ 34 :: r)) (h : 10 ∉ sints s) : tokS q = ((escL (sints s)).length + 2, (3, s), (0, ⟨#[]⟩)) := by
 rw [tokS, hq]
 have e1 : (34 :: (escL (sints s) ++ 34 :: r)).headD 0 = 34 := rfl
 have e2 : (34 :: (escL (sints s) ++ 34 :: r)).drop 1 = escL (sints s) ++ 34 :: r := rfl
 rw [e1, e2, if_neg (by decide), if_neg (by decide), if_pos rfl, qtS_esc _ r h]
 dsimp only
 rw [bstr_sints, show 1 + ((escL (sints s)).length + 1) = (escL (sints s)).length + 2 by omega]
theorem skS_34 (r : List Int) : skS (34 :: r) = some 0 := by
 rw [skS, if_neg (by exact fun e => absurd (Option.some.inj e.1) (by decide)), if_neg (by exact fun e => absurd (Option.some.inj e.1) (by decide)), if_neg (by show ¬ blkB 34 = true; decide)]
theorem quoted_lex {s : ByteArray} (h : 10 ∉ sints s) : LexR (quoB s) 0 (1, 1) [(3, s, 1, 1), (0, ⟨#[]⟩, 1, ((quoB s).size : Int) + 1)] none := by
 have hz := quoB_size s
 have hq := quoB_sints s
 have ht : tokS (quoB s) = ((quoB s).size, (3, s), (0, ⟨#[]⟩)) := by rw [tokS_quote hq h, hz]
 have hx : (quoB s).extract 0 (quoB s).size = quoB s := ext_eq (by rw [sints_ext0, List.take_of_length_le (by rw [sints_len]; omega)])
 have hb : BlR (quoB s) 0 (1, 1) true 0 (1, 1) := .done (by omega) (by rw [List.drop_zero, hq]; exact skS_34 _)
 have hnl : 10 ∉ sints (quoB s) := by
  rw [hq]
  simp only [List.mem_cons, List.mem_append, List.not_mem_nil, or_false, not_or]
  exact ⟨by decide, escL_nl _ h, by decide⟩
 have hp : plc (((sints (quoB s)).drop 0).take (tokS ((quoB s).extract 0 (quoB s).size)).1) (1, 1) = (1, ((quoB s).size : Int) + 1) := by
  rw [hx, ht, List.drop_zero]
  show plc ((sints (quoB s)).take (quoB s).size) (1, 1) = _
  rw [List.take_of_length_le (by rw [sints_len]; omega), plc_nonl _ _ hnl, sints_len]
  show ((1 : Int), (1 : Int) + ((quoB s).size : Int)) = _
  rw [Int.add_comm]
 have hfin : BlR (quoB s) (0 + (tokS ((quoB s).extract 0 (quoB s).size)).1) (plc (((sints (quoB s)).drop 0).take (tokS ((quoB s).extract 0 (quoB s).size)).1) (1, 1)) true (quoB s).size (1, ((quoB s).size : Int) + 1) := by
  rw [hp, hx, ht]
  show BlR (quoB s) (0 + (quoB s).size) _ true (quoB s).size _
  rw [Nat.zero_add]
  exact .fin rfl
 have hr := LexR.tok (t := quoB s) (a := 0) (p := (1, 1)) hb (by omega) (by rw [hx, ht]) (.fin hfin)
 rw [hx, ht] at hr
 exact hr
theorem lexQuoted_true (s : ByteArray) : m_l06_LexQuoted 33554467 s = some true := by
 have hl := sints_len s
 rw [m_l06_LexQuoted, awake_true, Option.bind_some]
 by_cases hs : 1048576 < s.size
 ·rw [if_pos (decide_eq_true (by omega))]
 ·have hq : m_quote s = some (if 10 ∈ sints s then ⟨#[]⟩ else quoB s) := by rw [m_quote, chk_pos (by omega)]; rfl
  rw [if_neg (nd (by omega)), hq, Option.bind_some]
  have loop : ∀ (g i : Nat), i ≤ s.size → s.size < g + i → (∀ x ∈ (sints s).take i, x ≠ 10) → m_l06_LexQuoted_L1 33554467 s true (if 10 ∈ sints s then ⟨#[]⟩ else quoB s) g (i : Int) = some true := by
   intro g
   induction g with
   | zero => intro i h1 h2 h3; omega
   | succ g ih =>
    intro i h1 h2 h3
    rw [m_l06_LexQuoted_L1.eq_2]
    by_cases hi : i < s.size
    ·rw [if_pos (decide_eq_true (by omega)), bat_lt hi, Option.bind_some]
     by_cases hx : (sints s)[i]'(by omega) = 10
     ·have hm : 10 ∈ sints s := by rw [← hx]; exact List.getElem_mem _
      rw [if_pos (decide_eq_true hx), if_pos rfl, if_pos hm, decide_eq_true rfl]; rfl
     ·rw [if_neg (nd hx), w64 (by omega), show (i : Int) + 1 = ((i + 1 : Nat) : Int) by omega]
      refine ih (i + 1) (by omega) (by omega) fun x hx2 => ?_
      rw [List.take_add_one, List.getElem?_eq_getElem (by omega)] at hx2
      rcases List.mem_append.1 hx2 with h4 | h4
      ·exact h3 x h4
      ·simp at h4; rw [h4]; exact hx
    ·have hno : 10 ∉ sints s := fun e => by
      refine h3 10 ?_ rfl
      rw [List.take_of_length_le (by omega)]; exact e
     have hz := quoB_size s
     have hle := escL_two (sints s)
     have hsc := lex_scan_eq (N := 33554467) (t := quoB s) (by omega) (by omega) (quoted_lex hno)
     rw [if_neg (nd (by omega)), if_neg hno, hsc, Option.bind_some, if_pos rfl]
     show (if (!((none : Option FltV)).isSome) = true then (if (decide ((([(3, s, 1, 1), (0, ⟨#[]⟩, 1, ((quoB s).size : Int) + 1)] : List TokV).length : Int) = 2)) = true then (at? ([(3, s, 1, 1), (0, ⟨#[]⟩, 1, ((quoB s).size : Int) + 1)] : List TokV) 0).bind (fun e_103 => if (decide (e_103.1 = 3) && decide (e_103.2.1 = s) && decide (e_103.2.2.1 = 1) && decide (e_103.2.2.2 = 1)) = true then ((at? ([(3, s, 1, 1), (0, ⟨#[]⟩, 1, ((quoB s).size : Int) + 1)] : List TokV) 1).bind fun e_114 => if (decide (e_114.1 = 0)) = true then (m_l06_LexQuoted_J2 (decide (e_114.2.2.2 = (IntKind.i64.wrap (((quoB s).size : Int) + 1))))) else (m_l06_LexQuoted_J2 false)) else (m_l06_LexQuoted_J2 false)) else (m_l06_LexQuoted_J2 false)) else (m_l06_LexQuoted_J2 false)) = some true
     rw [if_pos (by rfl), if_pos (by rfl)]
     show (if (decide ((3 : Int) = 3) && decide (s = s) && decide ((1 : Int) = 1) && decide ((1 : Int) = 1)) = true then (if (decide ((0 : Int) = 0)) = true then (m_l06_LexQuoted_J2 (decide (((quoB s).size : Int) + 1 = (IntKind.i64.wrap (((quoB s).size : Int) + 1))))) else (m_l06_LexQuoted_J2 false)) else (m_l06_LexQuoted_J2 false)) = some true
     rw [decide_eq_true (show s = s from rfl), if_pos (by rfl), if_pos (by rfl), w64 (by omega), decide_eq_true rfl]; rfl
  exact loop 33554467 0 (by omega) (by omega) (by simp)

end Go.Proofs.YtnfegieaaaigmaaGreatDoor
