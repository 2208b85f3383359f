/-
  What functions of the program compute, as plain Lean functions (m_..), and proofs that they compute it (c_..). Printed by a program of the author; no conditions.
-/
import Derived.Test.YtnfegieaaaigmaaGreatDoorLexApartBFloat
import Derived.Test.YtnfegieaaaigmaaGreatDoorProg
import Derived.Test.YtnfegieaaaigmaaGreatDoorLexApartBAsP
import Derived.Test.YtnfegieaaaigmaaGreatDoorLexApartBBld
import Derived.Test.YtnfegieaaaigmaaGreatDoorLexApartBBrief
import Derived.Test.YtnfegieaaaigmaaGreatDoorLexApartBEq4
import Derived.Test.YtnfegieaaaigmaaGreatDoorLexApartBErr
import Derived.Test.YtnfegieaaaigmaaGreatDoorLexApartBLexP
import Derived.Test.YtnfegieaaaigmaaGreatDoorLexApartBQuoP
set_option linter.unusedVariables false
set_option linter.unusedSectionVars false
set_option maxRecDepth 100000
set_option maxHeartbeats 2000000
namespace Go.Proofs.YtnfegieaaaigmaaGreatDoor
open Go Go.RowKit

theorem w64 {x : Int} (h : -9223372036854775808 ≤ x ∧ x ≤ 9223372036854775807) : IntKind.i64.wrap x = x := by rw [IntKind.wrap_i64]; omega
theorem chk_pos {α : Type} {c : Prop} [Decidable c] {x : Option α} (h : c) : chk c x = x := if_pos h
theorem at?_lt {α : Type} {xs : List α} {k : Nat} (h : k < xs.length) : at? xs (k : Int) = some xs[k] := by rw [at?_nat]; exact List.getElem?_eq_getElem h
theorem c_strings_HasPrefix (col : Col) (w0 : World) (p0_s : ByteArray) (p1_prefix : ByteArray) (r : Bool) (hm : m_pref p0_s p1_prefix = some r) :
    Calls Tryz.prog 89 #[(.string p0_s), (.string p1_prefix)] w0 (fun e w' => e = .returned ((.bool r)) ∧ Below w0.heap.size w0 w') :=
  pref_c  col w0 p0_s p1_prefix r hm
theorem c_strings_IndexByte (col : Col) (w0 : World) (p0_s : ByteArray) (p1_c : Int) (r : Int) (hm : m_idxb p0_s p1_c = some r) :
    Calls Tryz.prog 39 #[(.string p0_s), (.int .u8 p1_c)] w0 (fun e w' => e = .returned ((.int .i64 r)) ∧ Below w0.heap.size w0 w') :=
  idxb_c  col w0 p0_s p1_c r hm
def m_lex_reader_pass_J1 (kk_L1 : (ByteArray → Int → Int → Int → Option (ByteArray × Int × Int × Int))) (r_27 : ByteArray) (r_28 : Int) (r_29 : Int) (r_30 : Int) : Option (ByteArray × Int × Int × Int) :=
  kk_L1 r_27 r_28 r_29 r_30
def m_lex_reader_pass_L1 (p1_n : Int) : List Int → ByteArray → Int → Int → Int → Option (ByteArray × Int × Int × Int)
  | [], r_15, r_16, r_17, r_18 => some (r_15, IntKind.i64.wrap (r_16 + p1_n), r_17, r_18)
  | x_19 :: l_20, r_15, r_16, r_17, r_18 => if (decide (x_19 = 10)) = true then (m_lex_reader_pass_J1 (m_lex_reader_pass_L1 p1_n l_20) r_15 r_16 (IntKind.i64.wrap (r_17 + 1)) 1) else (m_lex_reader_pass_J1 (m_lex_reader_pass_L1 p1_n l_20) r_15 r_16 r_17 (IntKind.i64.wrap (r_18 + 1)))
termination_by structural x => x
def m_lex_reader_pass (p0_r : (ByteArray × Int × Int × Int)) (p1_n : Int) : Option (ByteArray × Int × Int × Int) :=
  chk ((0 : Int) ≤ p0_r.2.1 ∧ p0_r.2.1 ≤ (IntKind.i64.wrap (p0_r.2.1 + p1_n)) ∧ (IntKind.i64.wrap (p0_r.2.1 + p1_n)) ≤ (p0_r.1.size : Int)) (chk ((p0_r.1.extract (Int.toNat p0_r.2.1) (Int.toNat (IntKind.i64.wrap (p0_r.2.1 + p1_n)))).size ≤ maxLen) (m_lex_reader_pass_L1 p1_n (sints (p0_r.1.extract (Int.toNat p0_r.2.1) (Int.toNat (IntKind.i64.wrap (p0_r.2.1 + p1_n))))) p0_r.1 p0_r.2.1 p0_r.2.2.1 p0_r.2.2.2))
theorem c_lex_reader_pass {g0 : Nat} {col : Col} {w0 : World} {p0_r : (ByteArray × Int × Int × Int)} {p1_n : Int} {r : (ByteArray × Int × Int × Int)} (qc0 : Nat) (hm : m_lex_reader_pass p0_r p1_n = some r) (hd : dstB [qc0] = true) (hb0 : Box 62 qc0 col w0 g0 #[(.string p0_r.1), (.int .i64 p0_r.2.1), (.int .i64 p0_r.2.2.1), (.int .i64 p0_r.2.2.2)]) :
    Calls Tryz.prog 71 #[(.pointer (some ⟨g0, 0, none⟩)), (.int .i64 p1_n)] w0 (fun e w' => ∃ (col' : Col), e = .returned (.tuple #[]) ∧ KeepP (pS [qc0]) col w0 col' w' ∧ Box 62 qc0 col' w' g0 #[(.string r.1), (.int .i64 r.2.1), (.int .i64 r.2.2.1), (.int .i64 r.2.2.2)]) := by
 refine calls_of0  (m := 56) (args := [(.pointer (some ⟨g0, 0, none⟩)), (.int .i64 p1_n)]) Tryz.func71 rfl rfl rfl rfl ?_;rw [m_lex_reader_pass.eq_1] at hm;have hst := St.startL (l := [qc0]) rfl col w0;replace hb0 := hb0.startL (dst_nz hd 0 rfl) (dst_ix hd 0 rfl);refine go ?_;refine wmix (col := (colL [qc0] col)) [(0, 1), (1, 1), (2, 1), (3, 0), (4, 1), (5, 1), (6, 1), (7, 0), (8, 1), (9, 1), (10, 1), (11, 0), (12, 1), (13, 1), (14, 1), (17, 1), (15, 3), (16, 1)] (by kernel_rfl) (by kernel_rfl) <| xu rfl rfl (fun _ => r_mP rfl) ?_;refine xu (v := (.pointer (some ⟨g0, 0, none⟩))) rfl rfl (fun _ => r_nilCheck rfl) ?_;refine xF ⟨_, _, rfl⟩ ?_;refine xW (fun _ hC => ((hb0.atN).nth (q := 0) rfl).gr (hC.bl (colL [qc0] col))) ?_;refine xu rfl rfl (fun _ => r_mP rfl) ?_;refine xu (v := (.pointer (some ⟨g0, 0, none⟩))) rfl rfl (fun _ => r_nilCheck rfl) ?_;refine xF ⟨_, _, rfl⟩ ?_;refine xW (fun _ hC => ((hb0.atN).nth (q := 1) rfl).gr (hC.bl (colL [qc0] col))) ?_;refine xu rfl rfl (fun _ => r_mP rfl) ?_;refine xu (v := (.pointer (some ⟨g0, 0, none⟩))) rfl rfl (fun _ => r_nilCheck rfl) ?_;refine xF ⟨_, _, rfl⟩ ?_;refine xW (fun _ hC => ((hb0.atN).nth (q := 1) rfl).gr (hC.bl (colL [qc0] col))) ?_;refine xu rfl rfl (fun _ => r_mI rfl) ?_;refine xu rfl rfl (fun _ => r_add _ _ rfl rfl) ?_;obtain ⟨hb_1, hm⟩ := chk_some hm;refine xu (v := (.string (p0_r.1.extract (Int.toNat p0_r.2.1) (Int.toNat (IntKind.i64.wrap (p0_r.2.1 + p1_n)))))) rfl rfl (fun _ => r_strLH Tryz.underlying9 rfl rfl rfl hb_1) ?_;refine xu rfl rfl (fun _ => r_mI rfl) ?_;refine xe rfl rfl ?_;intro w_2 hC0;have hC := hC0.bl (colL [qc0] col);obtain ⟨hb_3, hm⟩ := chk_some hm;refine l_convB (col := (colL [qc0] col)) (s := p0_r.1.extract (Int.toNat p0_r.2.1) (Int.toNat (IntKind.i64.wrap (p0_r.2.1 + p1_n)))) Tryz.underlying9 Tryz.underlying144 Tryz.underlying5 rfl rfl hb_3 ?_;intro a_4 cap_5 w_6 col_7 hg_8 h_9;refine lnil <| xk3 col_7 hC0 hg_8 <| xu rfl rfl (fun _ => r_len Tryz.underlying144 rfl) ?_;refine xnil ?_;replace hb0 := (hb0.gr hC).gr hg_8;replace hst := (hst.grow hC).grow hg_8;intro w_10 hC;replace hC := hC.bl col_7;refine wblock ?_;replace h_9 := h_9.gr hC;replace hb0 := hb0.gr hC;replace hst := hst.grow hC;refine wloopK [0, 1, 21, 22, 1000000] (fun n f w_13 => ∃ col_14 r_15 r_16 r_17 r_18 k_11 l_12, n = l_12.length ∧ (sints (p0_r.1.extract (Int.toNat p0_r.2.1) (Int.toNat (IntKind.i64.wrap (p0_r.2.1 + p1_n))))).drop k_11 = l_12 ∧ m_lex_reader_pass_L1 p1_n l_12 r_15 r_16 r_17 r_18 = some r ∧ St w0 (colL [qc0] col) col_14 w_13 ∧ Box 62 440 col_14 w_13 g0 #[(.string r_15), (.int .i64 r_16), (.int .i64 r_17), (.int .i64 r_18)] ∧ Sl (Rep.int .u8) col_14 w_13 a_4 cap_5 (sints (p0_r.1.extract (Int.toNat p0_r.2.1) (Int.toNat (IntKind.i64.wrap (p0_r.2.1 + p1_n))))) ∧ [23].map f = [.int .i64 (k_11 : Int)]) (sints (p0_r.1.extract (Int.toNat p0_r.2.1) (Int.toNat (IntKind.i64.wrap (p0_r.2.1 + p1_n))))).length ⟨_, _, _, _, _, 0, _, rfl, rfl, hm, hst, hb0, h_9, rfl⟩ ?_;clear hm; intro n f w_13 hI
 obtain ⟨col_14, r_15, r_16, r_17, r_18, k_11, l_12, hn, hl, hm, hst, hb0, h_9, hs⟩ := hI;subst hn;refine .lL [23] hs ?_
 cases l_12 with
 | nil =>
  have hk : ¬ ((k_11 : Int) < ((sints (p0_r.1.extract (Int.toNat p0_r.2.1) (Int.toNat (IntKind.i64.wrap (p0_r.2.1 + p1_n))))).length : Int)) := by have := List.drop_eq_nil_iff.1 hl; omega
  have hkb := decide_eq_false hk;rw [m_lex_reader_pass_L1.eq_1] at hm;refine go ?_;refine wcondF (congrArg Value.bool hkb) <| go ?_;refine lV (.pointer (some ⟨g0, 0, none⟩)) (r_nilCheck rfl) <| lFLb hb0 ?_;refine go ?_;refine lV (.pointer (some ⟨g0, 0, none⟩)) (r_nilCheck rfl) <| lFa ⟨_, _, rfl⟩ ?_;refine l_bstoreF (off := 1) (v := (.int .i64 (IntKind.i64.wrap (r_16 + p1_n)))) hb0 Tryz.sizeOf3 rfl rfl (by intro u hu; simp only [Value.cells, List.mem_cons, List.not_mem_nil, or_false] at hu; subst hu; rfl) rfl rfl ?_;intro w_21 hk_22 hs_23 hb_24;replace hb_24 : Box 62 440 col_14 w_21 g0 #[(.string r_15), (.int .i64 (IntKind.i64.wrap (r_16 + p1_n))), (.int .i64 r_17), (.int .i64 r_18)] := hb_24;refine lnil ?_;cases hm;replace hst := hst.kp hk_22 hs_23;exact ⟨rfl, colFL w0.heap.size [qc0] col col_14 (fun n => bif Nat.beq n 440 then qc0 else 0), rfl, hst.finL rfl (fun n => bif Nat.beq n 440 then qc0 else 0), hst.finBoxL (g := (fun n => bif Nat.beq n 440 then qc0 else 0)) hb_24 (by decide) (by decide) rfl⟩
 | cons x_19 l_20 =>
  obtain ⟨hat, hl2_L1, hlt_L1⟩ := drop_get hl;have hk : (k_11 : Int) < ((sints (p0_r.1.extract (Int.toNat p0_r.2.1) (Int.toNat (IntKind.i64.wrap (p0_r.2.1 + p1_n))))).length : Int) := by omega
  have hkb := decide_eq_true hk;rw [m_lex_reader_pass_L1.eq_2] at hm;refine go ?_;refine wcondT (congrArg Value.bool hkb) <| wskip <| wseq ?_;refine Wp.cutK [0, 1, 21, 22, 23, 1000000] (fun f w_25 => ∃ col_26 r_27 r_28 r_29 r_30, m_lex_reader_pass_J1 (m_lex_reader_pass_L1 p1_n l_20) r_27 r_28 r_29 r_30 = some r ∧ St w0 (colL [qc0] col) col_26 w_25 ∧ Box 62 440 col_26 w_25 g0 #[(.string r_27), (.int .i64 r_28), (.int .i64 r_29), (.int .i64 r_30)] ∧ Sl (Rep.int .u8) col_26 w_25 a_4 cap_5 (sints (p0_r.1.extract (Int.toNat p0_r.2.1) (Int.toNat (IntKind.i64.wrap (p0_r.2.1 + p1_n)))))) ?_ ?_
  ·intro f w_25 hJ;obtain ⟨col_26, r_27, r_28, r_29, r_30, hm, hst, hb0, h_9⟩ := hJ;rw [m_lex_reader_pass_J1.eq_1] at hm;refine go ?_;exact ⟨l_20.length, by simp, rfl, ⟨_, _, _, _, _, _, _, rfl, hl2_L1, hm, hst, hb0, h_9, (eqc (congrArg (Value.int .i64) (wrap_succ (Nat.lt_of_lt_of_le hlt_L1 h_9.1.1))) rfl)⟩⟩
  refine go ?_;refine lI hat (h_9.addr hat) <| lW (h_9.atInt hat) ?_;refine go ?_;refine lV (.pointer (some ⟨g0, 0, none⟩)) (r_nilCheck rfl) <| lFLb hb0 ?_;refine go ?_;refine lV (.pointer (some ⟨g0, 0, none⟩)) (r_nilCheck rfl) <| lFa ⟨_, _, rfl⟩ ?_;refine l_bstoreF (off := 3) (v := (.int .i64 (IntKind.i64.wrap (r_18 + 1)))) hb0 Tryz.sizeOf3 rfl rfl (by intro u hu; simp only [Value.cells, List.mem_cons, List.not_mem_nil, or_false] at hu; subst hu; rfl) rfl rfl ?_;intro w_31 hk_32 hs_33 hb_34;replace hb_34 : Box 62 440 col_14 w_31 g0 #[(.string r_15), (.int .i64 r_16), (.int .i64 r_17), (.int .i64 (IntKind.i64.wrap (r_18 + 1)))] := hb_34;refine go ?_;replace h_9 := h_9.kp hk_32;replace hst := hst.kp hk_32 hs_33;refine wcb hm (fun hb hm => go ?_) fun hb hm => ?_
  ·refine lV (.pointer (some ⟨g0, 0, none⟩)) (r_nilCheck rfl) <| lFLb hb_34 ?_;refine go ?_;refine lV (.pointer (some ⟨g0, 0, none⟩)) (r_nilCheck rfl) <| lFa ⟨_, _, rfl⟩ ?_;refine l_bstoreF (off := 2) (v := (.int .i64 (IntKind.i64.wrap (r_17 + 1)))) hb_34 Tryz.sizeOf3 rfl rfl (by intro u hu; simp only [Value.cells, List.mem_cons, List.not_mem_nil, or_false] at hu; subst hu; rfl) rfl rfl ?_;intro w_35 hk_36 hs_37 hb_38;replace hb_38 : Box 62 440 col_14 w_35 g0 #[(.string r_15), (.int .i64 r_16), (.int .i64 (IntKind.i64.wrap (r_17 + 1))), (.int .i64 (IntKind.i64.wrap (r_18 + 1)))] := hb_38;refine lV (.pointer (some ⟨g0, 0, none⟩)) (r_nilCheck rfl) <| lFa ⟨_, _, rfl⟩ ?_;refine l_bstoreF (off := 3) (v := (.int .i64 1)) hb_38 Tryz.sizeOf3 rfl rfl (by intro u hu; simp only [Value.cells, List.mem_cons, List.not_mem_nil, or_false] at hu; subst hu; rfl) rfl rfl ?_;intro w_39 hk_40 hs_41 hb_42;replace hb_42 : Box 62 440 col_14 w_39 g0 #[(.string r_15), (.int .i64 r_16), (.int .i64 (IntKind.i64.wrap (r_17 + 1))), (.int .i64 1)] := hb_42;refine lnil ?_;replace h_9 := (h_9.kp hk_36).kp hk_40;replace hst := (hst.kp hk_36 hs_37).kp hk_40 hs_41;exact ⟨rfl, _, _, _, _, 1, hm, hst, hb_42, h_9⟩
  refine wskip ?_;exact ⟨rfl, _, _, _, _, _, hm, hst, hb_34, h_9⟩
theorem c_strings_Index (col : Col) (w0 : World) (p0_s : ByteArray) (p1_substr : ByteArray) (hgl : Gl (.iface 146 (.agg #[.pointer (some ⟨4, 30, none⟩)])) col w0) (r : Int) (hm : m_idx p0_s p1_substr = some r) :
    Calls Tryz.prog 90 #[(.string p0_s), (.string p1_substr)] w0 (fun e w' => e = .returned ((.int .i64 r)) ∧ Below w0.heap.size w0 w') :=
  idx_c  col w0 p0_s p1_substr hgl r hm
def m_lex_reader_blanks_J1 (r_4 : ByteArray) (r_5 : Int) (r_6 : Int) (r_7 : Int) (kk_L1 : (ByteArray → Int → Int → Int → Option (Bool × (ByteArray × Int × Int × Int)))) (end_20 : Int) : Option (Bool × (ByteArray × Int × Int × Int)) :=
  (m_lex_reader_pass (r_4, r_5, r_6, r_7) end_20).bind fun r_21 => kk_L1 r_21.1 r_21.2.1 r_21.2.2.1 r_21.2.2.2
def m_lex_reader_blanks_L1 (N : Nat)  : Nat → ByteArray → Int → Int → Int → Option (Bool × (ByteArray × Int × Int × Int))
  | 0, _, _, _, _ => none
  | n_1 + 1, r_4, r_5, r_6, r_7 => chk ((0 : Int) ≤ r_5 ∧ r_5 ≤ (r_4.size : Int) ∧ (r_4.size : Int) ≤ (r_4.size : Int)) (if (decide ((r_4.extract (Int.toNat r_5) (Int.toNat (r_4.size : Int))) = (⟨#[]⟩))) = true then (some (true, (r_4, r_5, r_6, r_7))) else ((m_pref (r_4.extract (Int.toNat r_5) (Int.toNat (r_4.size : Int))) (⟨#[47, 47]⟩)).bind fun r_10 => if r_10 = true then ((m_idxb (r_4.extract (Int.toNat r_5) (Int.toNat (r_4.size : Int))) 10).bind fun r_14 => if (decide (r_14 < 0)) = true then (m_lex_reader_blanks_J1 r_4 r_5 r_6 r_7 (m_lex_reader_blanks_L1 N n_1) ((r_4.extract (Int.toNat r_5) (Int.toNat (r_4.size : Int))).size : Int)) else (m_lex_reader_blanks_J1 r_4 r_5 r_6 r_7 (m_lex_reader_blanks_L1 N n_1) r_14)) else ((m_pref (r_4.extract (Int.toNat r_5) (Int.toNat (r_4.size : Int))) (⟨#[47, 42]⟩)).bind fun r_27 => if r_27 = true then (chk ((0 : Int) ≤ 2 ∧ 2 ≤ ((r_4.extract (Int.toNat r_5) (Int.toNat (r_4.size : Int))).size : Int) ∧ ((r_4.extract (Int.toNat r_5) (Int.toNat (r_4.size : Int))).size : Int) ≤ ((r_4.extract (Int.toNat r_5) (Int.toNat (r_4.size : Int))).size : Int)) ((m_idx ((r_4.extract (Int.toNat r_5) (Int.toNat (r_4.size : Int))).extract (Int.toNat 2) (Int.toNat ((r_4.extract (Int.toNat r_5) (Int.toNat (r_4.size : Int))).size : Int))) (⟨#[42, 47]⟩)).bind fun r_32 => if (decide (r_32 < 0)) = true then (some (false, (r_4, r_5, r_6, r_7))) else ((m_lex_reader_pass (r_4, r_5, r_6, r_7) (IntKind.i64.wrap (r_32 + 4))).bind fun r_36 => (m_lex_reader_blanks_L1 N n_1) r_36.1 r_36.2.1 r_36.2.2.1 r_36.2.2.2))) else ((bat? (r_4.extract (Int.toNat r_5) (Int.toNat (r_4.size : Int))) 0).bind fun e_42 => (m_idxb (⟨#[32, 9, 10, 13]⟩) e_42).bind fun r_44 => if (decide (0 ≤ r_44)) = true then ((m_lex_reader_pass (r_4, r_5, r_6, r_7) 1).bind fun r_48 => (m_lex_reader_blanks_L1 N n_1) r_48.1 r_48.2.1 r_48.2.2.1 r_48.2.2.2) else (some (true, (r_4, r_5, r_6, r_7)))))))
termination_by structural x => x
def m_lex_reader_blanks (N : Nat) (p0_r : (ByteArray × Int × Int × Int)) : Option (Bool × (ByteArray × Int × Int × Int)) :=
  m_lex_reader_blanks_L1 N N p0_r.1 p0_r.2.1 p0_r.2.2.1 p0_r.2.2.2
theorem c_lex_reader_blanks {N g0 : Nat} {col : Col} {w0 : World} {p0_r : (ByteArray × Int × Int × Int)} {r : (Bool × (ByteArray × Int × Int × Int))} (qc0 : Nat) (hm : m_lex_reader_blanks N p0_r = some r) (hd : dstB [qc0] = true) (hb0 : Box 62 qc0 col w0 g0 #[(.string p0_r.1), (.int .i64 p0_r.2.1), (.int .i64 p0_r.2.2.1), (.int .i64 p0_r.2.2.2)]) (hgl : Gl (.iface 146 (.agg #[.pointer (some ⟨4, 30, none⟩)])) col w0) :
    Calls Tryz.prog 65 #[(.pointer (some ⟨g0, 0, none⟩))] w0 (fun e w' => ∃ (col' : Col), e = .returned ((.bool r.1)) ∧ KeepP (pS [qc0]) col w0 col' w' ∧ Box 62 qc0 col' w' g0 #[(.string r.2.1), (.int .i64 r.2.2.1), (.int .i64 r.2.2.2.1), (.int .i64 r.2.2.2.2)]) := by
 refine calls_of1 2 (m := 49) Tryz.func65 rfl rfl rfl rfl rfl ?_;rw [m_lex_reader_blanks.eq_1] at hm;have hst := St.startL (l := [qc0]) rfl col w0;replace hb0 := hb0.startL (dst_nz hd 0 rfl) (dst_ix hd 0 rfl);refine go ?_;replace hgl := hgl.keep (Stay.startL [qc0] col w0);refine wloopK [0, 1000000] (fun n f w_2 => ∃ col_3 r_4 r_5 r_6 r_7 n_1, n_1 = n ∧ m_lex_reader_blanks_L1 N n_1 r_4 r_5 r_6 r_7 = some r ∧ St w0 (colL [qc0] col) col_3 w_2 ∧ Box 62 440 col_3 w_2 g0 #[(.string r_4), (.int .i64 r_5), (.int .i64 r_6), (.int .i64 r_7)] ∧ Gl (.iface 146 (.agg #[.pointer (some ⟨4, 30, none⟩)])) col_3 w_2) N ⟨_, _, _, _, _, _, rfl, hm, hst, hb0, hgl⟩ ?_;clear hm; intro n f w_2 hI;obtain ⟨col_3, r_4, r_5, r_6, r_7, n_1, hn, hm, hst, hb0, hgl⟩ := hI;subst hn
 cases n_1 with
 | zero => rw [m_lex_reader_blanks_L1.eq_1] at hm; cases hm
 | succ n_1 =>
  rw [m_lex_reader_blanks_L1.eq_2] at hm;refine go ?_;refine wquiet (col := col_3) (by kernel_rfl) (by kernel_rfl) <| go ?_;refine qv (v := (.pointer (some ⟨g0, 0, none⟩))) rfl (fun _ hC => r_nilCheck rfl) ?_;refine qF ⟨_, _, rfl⟩ ?_;refine qW (fun _ hC => ((hb0.atN).nth (q := 0) rfl).gr (hC.bl col_3)) ?_;refine go ?_;refine qv (v := (.pointer (some ⟨g0, 0, none⟩))) rfl (fun _ hC => r_nilCheck rfl) ?_;refine qF ⟨_, _, rfl⟩ ?_;refine qW (fun _ hC => ((hb0.atN).nth (q := 1) rfl).gr (hC.bl col_3)) ?_;obtain ⟨hb_8, hm⟩ := chk_some hm;refine qv (v := (.string (r_4.extract (Int.toNat r_5) (Int.toNat (r_4.size : Int))))) rfl (fun _ hC => r_strL Tryz.underlying9 rfl rfl hb_8) ?_;refine go ?_;refine qnil ?_;intro w_9 hC;replace hC := hC.bl col_3;refine go ?_;replace hgl := hgl.gr hC;replace hb0 := hb0.gr hC;replace hst := hst.grow hC;refine wcb hm (fun hb hm => go ?_) fun hb hm => go ?_
  ·cases hm;exact ⟨rfl, colFL w0.heap.size [qc0] col col_3 (fun n => bif Nat.beq n 440 then qc0 else 0), rfl, hst.finL rfl (fun n => bif Nat.beq n 440 then qc0 else 0), hst.finBoxL (g := (fun n => bif Nat.beq n 440 then qc0 else 0)) hb0 (by decide) (by decide) rfl⟩
  obtain ⟨r_10, hr_11, hm⟩ := bZ hm;refine lcA (c_strings_HasPrefix col_3 _ (r_4.extract (Int.toNat r_5) (Int.toNat (r_4.size : Int))) (⟨#[47, 47]⟩) r_10 hr_11) ?_;rintro _ w_12 ⟨rfl, hg_13⟩;refine ⟨_, rfl, ?_⟩;replace hg_13 : Grow col_3 w_9 col_3 w_12 := .of_below hg_13;refine go ?_;replace hgl := hgl.gr hg_13;replace hb0 := hb0.gr hg_13;replace hst := hst.grow hg_13;refine wcb hm (fun hb hm => go ?_) fun hb hm => go ?_
  ·obtain ⟨r_14, hr_15, hm⟩ := bZ hm;refine lcA (c_strings_IndexByte col_3 _ (r_4.extract (Int.toNat r_5) (Int.toNat (r_4.size : Int))) 10 r_14 hr_15) ?_;rintro _ w_16 ⟨rfl, hg_17⟩;refine ⟨_, rfl, ?_⟩;replace hg_17 : Grow col_3 w_12 col_3 w_16 := .of_below hg_17;refine lAI rfl <| lnil <| wseq ?_;replace hgl := hgl.gr hg_17;replace hb0 := hb0.gr hg_17;replace hst := hst.grow hg_17;refine Wp.cutK [0, 1000000] (fun f w_18 => ∃ col_19 end_20, m_lex_reader_blanks_J1 r_4 r_5 r_6 r_7 (m_lex_reader_blanks_L1 N n_1) end_20 = some r ∧ St w0 (colL [qc0] col) col_19 w_18 ∧ Box 62 440 col_19 w_18 g0 #[(.string r_4), (.int .i64 r_5), (.int .i64 r_6), (.int .i64 r_7)] ∧ Gl (.iface 146 (.agg #[.pointer (some ⟨4, 30, none⟩)])) col_19 w_18 ∧ [4].map f = [.int .i64 end_20]) ?_ ?_
   ·intro f w_18 hJ;obtain ⟨col_19, end_20, hm, hst, hb0, hgl, hs⟩ := hJ;rw [m_lex_reader_blanks_J1.eq_1] at hm;refine .lL [4] hs <| go ?_;obtain ⟨r_21, hr_22, hm⟩ := bZ hm;refine lcA (c_lex_reader_pass 440 hr_22 rfl hb0) ?_;rintro _ w_24 ⟨col_26, rfl, hg_25, ohb_23⟩;refine ⟨_, rfl, ?_⟩;refine lnil ?_;replace hgl := hgl.kpp hg_25;replace hst := hst.kpp hg_25;exact ⟨n_1, by omega, rfl, ⟨_, _, _, _, _, _, rfl, hm, hst, ohb_23, hgl⟩⟩
   refine go ?_;refine wcb hm (fun hb hm => go ?_) fun hb hm => ?_
   ·exact ⟨rfl, _, _, hm, hst, hb0, hgl, rfl⟩
   refine wskip ?_;exact ⟨rfl, _, _, hm, hst, hb0, hgl, rfl⟩
  obtain ⟨r_27, hr_28, hm⟩ := bZ hm;refine lcA (c_strings_HasPrefix col_3 _ (r_4.extract (Int.toNat r_5) (Int.toNat (r_4.size : Int))) (⟨#[47, 42]⟩) r_27 hr_28) ?_;rintro _ w_29 ⟨rfl, hg_30⟩;refine ⟨_, rfl, ?_⟩;replace hg_30 : Grow col_3 w_12 col_3 w_29 := .of_below hg_30;refine go ?_;replace hgl := hgl.gr hg_30;replace hb0 := hb0.gr hg_30;replace hst := hst.grow hg_30;refine wcb hm (fun hb hm => go ?_) fun hb hm => go ?_
  ·obtain ⟨hb_31, hm⟩ := chk_some hm;refine lV (.string ((r_4.extract (Int.toNat r_5) (Int.toNat (r_4.size : Int))).extract (Int.toNat 2) (Int.toNat ((r_4.extract (Int.toNat r_5) (Int.toNat (r_4.size : Int))).size : Int)))) (r_strL Tryz.underlying9 rfl rfl hb_31) ?_;obtain ⟨r_32, hr_33, hm⟩ := bZ hm;refine lcA (c_strings_Index col_3 _ ((r_4.extract (Int.toNat r_5) (Int.toNat (r_4.size : Int))).extract (Int.toNat 2) (Int.toNat ((r_4.extract (Int.toNat r_5) (Int.toNat (r_4.size : Int))).size : Int))) (⟨#[42, 47]⟩) hgl r_32 hr_33) ?_;rintro _ w_34 ⟨rfl, hg_35⟩;refine ⟨_, rfl, ?_⟩;replace hg_35 : Grow col_3 w_29 col_3 w_34 := .of_below hg_35;refine go ?_;replace hgl := hgl.gr hg_35;replace hb0 := hb0.gr hg_35;replace hst := hst.grow hg_35;refine wcb hm (fun hb hm => go ?_) fun hb hm => go ?_
   ·cases hm;exact ⟨rfl, colFL w0.heap.size [qc0] col col_3 (fun n => bif Nat.beq n 440 then qc0 else 0), rfl, hst.finL rfl (fun n => bif Nat.beq n 440 then qc0 else 0), hst.finBoxL (g := (fun n => bif Nat.beq n 440 then qc0 else 0)) hb0 (by decide) (by decide) rfl⟩
   obtain ⟨r_36, hr_37, hm⟩ := bZ hm;refine lcA (c_lex_reader_pass 440 hr_37 rfl hb0) ?_;rintro _ w_39 ⟨col_41, rfl, hg_40, ohb_38⟩;refine ⟨_, rfl, ?_⟩;refine lnil ?_;replace hgl := hgl.kpp hg_40;replace hst := hst.kpp hg_40;exact ⟨n_1, by omega, rfl, ⟨_, _, _, _, _, _, rfl, hm, hst, ohb_38, hgl⟩⟩
  obtain ⟨e_42, hj_43, hm⟩ := bZ hm;refine lV (.int .u8 e_42) (r_indexS (s := (r_4.extract (Int.toNat r_5) (Int.toNat (r_4.size : Int)))) Tryz.underlying9 rfl rfl hj_43) ?_;obtain ⟨r_44, hr_45, hm⟩ := bZ hm;refine lcA (c_strings_IndexByte col_3 _ (⟨#[32, 9, 10, 13]⟩) e_42 r_44 hr_45) ?_;rintro _ w_46 ⟨rfl, hg_47⟩;refine ⟨_, rfl, ?_⟩;replace hg_47 : Grow col_3 w_29 col_3 w_46 := .of_below hg_47;refine go ?_;replace hgl := hgl.gr hg_47;replace hb0 := hb0.gr hg_47;replace hst := hst.grow hg_47;refine wcb hm (fun hb hm => go ?_) fun hb hm => go ?_
  ·obtain ⟨r_48, hr_49, hm⟩ := bZ hm;refine lcA (c_lex_reader_pass 440 hr_49 rfl hb0) ?_;rintro _ w_51 ⟨col_53, rfl, hg_52, ohb_50⟩;refine ⟨_, rfl, ?_⟩;refine lnil ?_;replace hgl := hgl.kpp hg_52;replace hst := hst.kpp hg_52;exact ⟨n_1, by omega, rfl, ⟨_, _, _, _, _, _, rfl, hm, hst, ohb_50, hgl⟩⟩
  cases hm;exact ⟨rfl, colFL w0.heap.size [qc0] col col_3 (fun n => bif Nat.beq n 440 then qc0 else 0), rfl, hst.finL rfl (fun n => bif Nat.beq n 440 then qc0 else 0), hst.finBoxL (g := (fun n => bif Nat.beq n 440 then qc0 else 0)) hb0 (by decide) (by decide) rfl⟩
theorem c_lex_reader_next_1 (col : Col) (w0 : World) (qc2 : Nat) (hqqc2 : qc2 ≠ 0) (p0_code : Int) (p1_word : ByteArray) (g2 : Nat) (p2_v : (Int × ByteArray × Int × Int)) (hb2 : Box 38 qc2 col w0 g2 #[(.int .i8 p2_v.1), (.string p2_v.2.1), (.int .i64 p2_v.2.2.1), (.int .i64 p2_v.2.2.2)]) (r : ((Int × ByteArray × Int × Int) × (Option (Int × Int × Int × ByteArray)))) (hm : m_fail p0_code p1_word p2_v = some r) :
    Calls Tryz.prog 66 #[(.int .i64 p0_code), (.string p1_word), (.pointer (some ⟨g2, 0, none⟩))] w0 (fun e w' => ∃ (col' : Col) (rv1 : Value), e = .returned (.tuple #[(.agg #[(.int .i8 r.1.1), (.string r.1.2.1), (.int .i64 r.1.2.2.1), (.int .i64 r.1.2.2.2)]), rv1]) ∧ Grow col w0 col' w' ∧ Rd (Rep.err 57 26 (Rep.pair (Rep.int .i64) (Rep.pair (Rep.int .i64) (Rep.pair (Rep.int .i64) Rep.str)))) col' w' [rv1] r.2) :=
  fail_emb  col w0 qc2 hqqc2 p0_code p1_word g2 p2_v hb2 r hm
def m_lex_letter_J1  : Option Bool :=
  some false
def m_lex_letter_J2 (v_23 : Bool) : Option Bool :=
  if v_23 = true then (some true) else m_lex_letter_J1
def m_lex_letter_J4 (p0_c : Int) (v_32 : Bool) : Option Bool :=
  if v_32 = true then (m_lex_letter_J2 v_32) else (m_lex_letter_J2 (decide (p0_c = 95)))
def m_lex_letter_J3 (p0_c : Int) (v_28 : Bool) : Option Bool :=
  if v_28 = true then (m_lex_letter_J2 v_28) else (if (decide (97 ≤ p0_c)) = true then (m_lex_letter_J4 p0_c (decide (p0_c ≤ 122))) else (m_lex_letter_J4 p0_c false))
def m_lex_letter (p0_c : Int) : Option Bool :=
  if (decide (65 ≤ p0_c)) = true then (m_lex_letter_J3 p0_c (decide (p0_c ≤ 90))) else (m_lex_letter_J3 p0_c false)
theorem c_lex_letter {col : Col} {w0 : World} {p0_c : Int} {r : Bool} (hm : m_lex_letter p0_c = some r)  :
    Calls Tryz.prog 34 #[(.int .u8 p0_c)] w0 (fun e w' => e = .returned ((.bool r)) ∧ Below w0.heap.size w0 w') := by
 refine calls_of1 2 (m := 18) Tryz.func34 rfl rfl rfl rfl rfl ?_;rw [m_lex_letter.eq_1] at hm;have hst := St.start col w0;refine wseq <| wregion <| lAB rfl <| lnil <| wseq ?_;refine Wp.cutK [1000000] (fun f w_1 => ∃ col_2, m_lex_letter_J1  = some r ∧ St w0 (col0 col) col_2 w_1) ?_ ?_
 ·intro f w_1 hJ;obtain ⟨col_2, hm, hst⟩ := hJ;rw [m_lex_letter_J1.eq_1] at hm;refine go ?_;cases hm;exact ⟨rfl, rfl, hst.below⟩
 refine wblock <| wseq ?_;refine Wp.cutK [1000000] (fun f w_21 => ∃ col_22 v_23, m_lex_letter_J2 v_23 = some r ∧ St w0 (col0 col) col_22 w_21 ∧ [3].map f = [.bool v_23]) ?_ ?_
 ·intro f w_21 hJ;obtain ⟨col_22, v_23, hm, hst, hs⟩ := hJ;rw [m_lex_letter_J2.eq_1] at hm;refine .lL [3] hs ?_;refine wcb hm (fun hb hm => go ?_) fun hb hm => ?_
  ·cases hm;exact ⟨rfl, rfl, hst.below⟩
  refine wskip ?_;exact ⟨rfl, _, hm, hst⟩
 refine wseq ?_;refine Wp.cutK [0, 1000000] (fun f w_26 => ∃ col_27 v_28, m_lex_letter_J3 p0_c v_28 = some r ∧ St w0 (col0 col) col_27 w_26 ∧ [3].map f = [.bool v_28]) ?_ ?_
 ·intro f w_26 hJ;obtain ⟨col_27, v_28, hm, hst, hs⟩ := hJ;rw [m_lex_letter_J3.eq_1] at hm;refine .lL [3] hs ?_;refine wcb hm (fun hb hm => ?_) fun hb hm => ?_
  ·refine wskip ?_;exact ⟨rfl, _, _, hm, hst, rfl⟩
  refine wseq ?_;refine Wp.cutK [0, 1000000] (fun f w_30 => ∃ col_31 v_32, m_lex_letter_J4 p0_c v_32 = some r ∧ St w0 (col0 col) col_31 w_30 ∧ [3].map f = [.bool v_32]) ?_ ?_
  ·intro f w_30 hJ;obtain ⟨col_31, v_32, hm, hst, hs⟩ := hJ;rw [m_lex_letter_J4.eq_1] at hm;refine .lL [3] hs ?_;refine wcb hm (fun hb hm => ?_) fun hb hm => go ?_
   ·refine wskip ?_;exact ⟨rfl, _, _, hm, hst, rfl⟩
   exact ⟨rfl, _, _, hm, hst, rfl⟩
  refine go ?_;refine bcb hm (fun hg_33 hm => go ?_) fun hg_33 hm => go ?_
  ·refine lV (.bool (decide (p0_c ≤ 122))) (r_pickT (congrArg Value.bool hg_33) rfl) <| go ?_;exact ⟨rfl, _, _, hm, hst, rfl⟩
  refine lV (.bool false) (r_pickF (congrArg Value.bool hg_33) rfl) <| go ?_;exact ⟨rfl, _, _, hm, hst, rfl⟩
 refine go ?_;refine bcb hm (fun hg_34 hm => go ?_) fun hg_34 hm => go ?_
 ·refine lV (.bool (decide (p0_c ≤ 90))) (r_pickT (congrArg Value.bool hg_34) rfl) <| go ?_;exact ⟨rfl, _, _, hm, hst, rfl⟩
 refine lV (.bool false) (r_pickF (congrArg Value.bool hg_34) rfl) <| go ?_;exact ⟨rfl, _, _, hm, hst, rfl⟩
def m_lex_digit_J1 (v_5 : Bool) : Option Bool :=
  some v_5
def m_lex_digit (p0_c : Int) : Option Bool :=
  if (decide (48 ≤ p0_c)) = true then (m_lex_digit_J1 (decide (p0_c ≤ 57))) else (m_lex_digit_J1 false)
theorem c_lex_digit {col : Col} {w0 : World} {p0_c : Int} {r : Bool} (hm : m_lex_digit p0_c = some r)  :
    Calls Tryz.prog 67 #[(.int .u8 p0_c)] w0 (fun e w' => e = .returned ((.bool r)) ∧ Below w0.heap.size w0 w') := by
 refine calls_of1 2 (m := 9) Tryz.func67 rfl rfl rfl rfl rfl ?_;rw [m_lex_digit.eq_1] at hm;have hst := St.start col w0;refine wseq <| wregion <| lAB rfl <| lnil <| wseq ?_;refine Wp.cutK [1000000] (fun f w_3 => ∃ col_4 v_5, m_lex_digit_J1 v_5 = some r ∧ St w0 (col0 col) col_4 w_3 ∧ [2].map f = [.bool v_5]) ?_ ?_
 ·intro f w_3 hJ;obtain ⟨col_4, v_5, hm, hst, hs⟩ := hJ;rw [m_lex_digit_J1.eq_1] at hm;refine .lL [2] hs <| wret ?_;cases hm;exact ⟨rfl, rfl, hst.below⟩
 refine go ?_;refine bcb hm (fun hg_6 hm => go ?_) fun hg_6 hm => go ?_
 ·refine lV (.bool (decide (p0_c ≤ 57))) (r_pickT (congrArg Value.bool hg_6) rfl) <| go ?_;exact ⟨rfl, _, _, hm, hst, rfl⟩
 refine lV (.bool false) (r_pickF (congrArg Value.bool hg_6) rfl) <| go ?_;exact ⟨rfl, _, _, hm, hst, rfl⟩
def m_lex_inWord_J1 (v_21 : Bool) : Option Bool :=
  some v_21
def m_lex_inWord (p0_c : Int) : Option Bool :=
  (m_lex_letter p0_c).bind fun r_22 => if r_22 = true then (m_lex_inWord_J1 true) else ((m_lex_digit p0_c).bind fun r_27 => m_lex_inWord_J1 r_27)
theorem c_lex_inWord {col : Col} {w0 : World} {p0_c : Int} {r : Bool} (hm : m_lex_inWord p0_c = some r)  :
    Calls Tryz.prog 36 #[(.int .u8 p0_c)] w0 (fun e w' => e = .returned ((.bool r)) ∧ Below w0.heap.size w0 w') := by
 refine calls_of1 2 (m := 9) Tryz.func36 rfl rfl rfl rfl rfl ?_;rw [m_lex_inWord.eq_1] at hm;have hst := St.start col w0;refine wseq <| wregion <| lAB rfl <| lnil <| wseq ?_;refine Wp.cutK [1000000] (fun f w_19 => ∃ col_20 v_21, m_lex_inWord_J1 v_21 = some r ∧ St w0 (col0 col) col_20 w_19 ∧ [2].map f = [.bool v_21]) ?_ ?_
 ·intro f w_19 hJ;obtain ⟨col_20, v_21, hm, hst, hs⟩ := hJ;rw [m_lex_inWord_J1.eq_1] at hm;refine .lL [2] hs <| wret ?_;cases hm;exact ⟨rfl, rfl, hst.below⟩
 refine go ?_;obtain ⟨r_22, hr_23, hm⟩ := bZ hm;refine lcA (c_lex_letter (col := (col0 col)) hr_23) ?_;rintro _ w_24 ⟨rfl, hg_25⟩;refine ⟨_, rfl, ?_⟩;replace hg_25 : Grow (col0 col) w0 (col0 col) w_24 := .of_below hg_25;refine lMB rfl ?_;replace hst := hst.grow hg_25;refine bcb hm (fun hg_26 hm => go ?_) fun hg_26 hm => go ?_
 ·refine lV (.bool true) (r_pickT (congrArg Value.bool hg_26) rfl) <| go ?_;exact ⟨rfl, _, _, hm, hst, rfl⟩
 obtain ⟨r_27, hr_28, hm⟩ := bZ hm;refine lcA (c_lex_digit (col := (col0 col)) hr_28) ?_;rintro _ w_29 ⟨rfl, hg_30⟩;refine ⟨_, rfl, ?_⟩;replace hg_30 : Grow (col0 col) w_24 (col0 col) w_29 := .of_below hg_30;refine lV (.bool r_27) (r_pickF (congrArg Value.bool hg_26) rfl) <| go ?_;replace hst := hst.grow hg_30;exact ⟨rfl, _, _, hm, hst, rfl⟩
def m_lex_run_v2f36_J1 (n_4 : Int) (kk_L1 : (Int → Option Int)) (v_21 : Bool) : Option Int :=
  if v_21 = true then (kk_L1 (IntKind.i64.wrap (n_4 + 1))) else (some n_4)
def m_lex_run_v2f36_L1 (N : Nat) (p0_s : ByteArray) (p1_at : Int) : Nat → Int → Option Int
  | 0, _ => none
  | n_1 + 1, n_4 => if (decide ((IntKind.i64.wrap (p1_at + n_4)) < (p0_s.size : Int))) = true then ((bat? p0_s (IntKind.i64.wrap (p1_at + n_4))).bind fun e_23 => (m_lex_inWord e_23).bind fun r_25 => m_lex_run_v2f36_J1 n_4 (m_lex_run_v2f36_L1 N p0_s p1_at n_1) r_25) else (m_lex_run_v2f36_J1 n_4 (m_lex_run_v2f36_L1 N p0_s p1_at n_1) false)
termination_by structural x => x
def m_lex_run_v2f36 (N : Nat) (p0_s : ByteArray) (p1_at : Int) : Option Int :=
  m_lex_run_v2f36_L1 N p0_s p1_at N 0
theorem c_lex_run_v2f36 {N : Nat} {col : Col} {w0 : World} {p0_s : ByteArray} {p1_at r : Int} (hm : m_lex_run_v2f36 N p0_s p1_at = some r)  :
    Calls Tryz.prog 35 #[(.string p0_s), (.int .i64 p1_at), (.func (.func 36) #[] #[])] w0 (fun e w' => e = .returned ((.int .i64 r)) ∧ Below w0.heap.size w0 w') := by
 refine calls_of1 6 (m := 26) Tryz.func35 rfl rfl rfl rfl rfl ?_;rw [m_lex_run_v2f36.eq_1] at hm;have hst := St.start col w0;refine go ?_;refine wloopK [0, 1, 2, 1000000] (fun n f w_2 => ∃ col_3 n_4 n_1, n_1 = n ∧ m_lex_run_v2f36_L1 N p0_s p1_at n_1 n_4 = some r ∧ St w0 (col0 col) col_3 w_2 ∧ [7].map f = [.int .i64 n_4]) N ⟨_, 0, _, rfl, hm, hst, rfl⟩ ?_;clear hm; intro n f w_2 hI;obtain ⟨col_3, n_4, n_1, hn, hm, hst, hs⟩ := hI;subst hn;refine .lL [7] hs ?_
 cases n_1 with
 | zero => rw [m_lex_run_v2f36_L1.eq_1] at hm; cases hm
 | succ n_1 =>
  rw [m_lex_run_v2f36_L1.eq_2] at hm;refine wseq <| wseq ?_;refine Wp.cutK [0, 1, 2, 7, 1000000] (fun f w_19 => ∃ col_20 v_21, m_lex_run_v2f36_J1 n_4 (m_lex_run_v2f36_L1 N p0_s p1_at n_1) v_21 = some r ∧ St w0 (col0 col) col_20 w_19 ∧ [22].map f = [.bool v_21]) ?_ ?_
  ·intro f w_19 hJ;obtain ⟨col_20, v_21, hm, hst, hs⟩ := hJ;rw [m_lex_run_v2f36_J1.eq_1] at hm;refine .lL [22] hs ?_;refine wcb hm (fun hb hm => go ?_) fun hb hm => go ?_
   ·exact ⟨n_1, by omega, rfl, ⟨_, _, _, rfl, hm, hst, rfl⟩⟩
   cases hm;exact ⟨rfl, rfl, hst.below⟩
  refine go ?_;refine bcb hm (fun hg_22 hm => go ?_) fun hg_22 hm => go ?_
  ·refine lM (.func (.func 36) #[] #[]) <| go ?_;obtain ⟨e_23, hj_24, hm⟩ := bZ hm;refine lV (.int .u8 e_23) (r_indexS (s := p0_s) Tryz.underlying9 rfl rfl hj_24) <| go ?_;obtain ⟨r_25, hr_26, hm⟩ := bZ hm;refine lc rfl rfl (r_callv1 Tryz.call36 rfl rfl) (c_lex_inWord (col := col_3) hr_26 :) ?_;rintro _ w_27 ⟨rfl, hg_28⟩;refine ⟨_, rfl, ?_⟩;replace hg_28 : Grow col_3 w_2 col_3 w_27 := .of_below hg_28;refine lV (.bool r_25) (r_pickT (congrArg Value.bool hg_22) rfl) <| lnil ?_;replace hst := hst.grow hg_28;exact ⟨rfl, _, _, hm, hst, rfl⟩
  refine lV (.bool false) (r_pickF (congrArg Value.bool hg_22) rfl) <| lnil ?_;exact ⟨rfl, _, _, hm, hst, rfl⟩
def m_lex_run_v2f67_J1 (n_4 : Int) (kk_L1 : (Int → Option Int)) (v_21 : Bool) : Option Int :=
  if v_21 = true then (kk_L1 (IntKind.i64.wrap (n_4 + 1))) else (some n_4)
def m_lex_run_v2f67_L1 (N : Nat) (p0_s : ByteArray) (p1_at : Int) : Nat → Int → Option Int
  | 0, _ => none
  | n_1 + 1, n_4 => if (decide ((IntKind.i64.wrap (p1_at + n_4)) < (p0_s.size : Int))) = true then ((bat? p0_s (IntKind.i64.wrap (p1_at + n_4))).bind fun e_23 => (m_lex_digit e_23).bind fun r_25 => m_lex_run_v2f67_J1 n_4 (m_lex_run_v2f67_L1 N p0_s p1_at n_1) r_25) else (m_lex_run_v2f67_J1 n_4 (m_lex_run_v2f67_L1 N p0_s p1_at n_1) false)
termination_by structural x => x
def m_lex_run_v2f67 (N : Nat) (p0_s : ByteArray) (p1_at : Int) : Option Int :=
  m_lex_run_v2f67_L1 N p0_s p1_at N 0
theorem c_lex_run_v2f67 {N : Nat} {col : Col} {w0 : World} {p0_s : ByteArray} {p1_at r : Int} (hm : m_lex_run_v2f67 N p0_s p1_at = some r)  :
    Calls Tryz.prog 35 #[(.string p0_s), (.int .i64 p1_at), (.func (.func 67) #[] #[])] w0 (fun e w' => e = .returned ((.int .i64 r)) ∧ Below w0.heap.size w0 w') := by
 refine calls_of1 6 (m := 26) Tryz.func35 rfl rfl rfl rfl rfl ?_;rw [m_lex_run_v2f67.eq_1] at hm;have hst := St.start col w0;refine go ?_;refine wloopK [0, 1, 2, 1000000] (fun n f w_2 => ∃ col_3 n_4 n_1, n_1 = n ∧ m_lex_run_v2f67_L1 N p0_s p1_at n_1 n_4 = some r ∧ St w0 (col0 col) col_3 w_2 ∧ [7].map f = [.int .i64 n_4]) N ⟨_, 0, _, rfl, hm, hst, rfl⟩ ?_;clear hm; intro n f w_2 hI;obtain ⟨col_3, n_4, n_1, hn, hm, hst, hs⟩ := hI;subst hn;refine .lL [7] hs ?_
 cases n_1 with
 | zero => rw [m_lex_run_v2f67_L1.eq_1] at hm; cases hm
 | succ n_1 =>
  rw [m_lex_run_v2f67_L1.eq_2] at hm;refine wseq <| wseq ?_;refine Wp.cutK [0, 1, 2, 7, 1000000] (fun f w_19 => ∃ col_20 v_21, m_lex_run_v2f67_J1 n_4 (m_lex_run_v2f67_L1 N p0_s p1_at n_1) v_21 = some r ∧ St w0 (col0 col) col_20 w_19 ∧ [22].map f = [.bool v_21]) ?_ ?_
  ·intro f w_19 hJ;obtain ⟨col_20, v_21, hm, hst, hs⟩ := hJ;rw [m_lex_run_v2f67_J1.eq_1] at hm;refine .lL [22] hs ?_;refine wcb hm (fun hb hm => go ?_) fun hb hm => go ?_
   ·exact ⟨n_1, by omega, rfl, ⟨_, _, _, rfl, hm, hst, rfl⟩⟩
   cases hm;exact ⟨rfl, rfl, hst.below⟩
  refine go ?_;refine bcb hm (fun hg_22 hm => go ?_) fun hg_22 hm => go ?_
  ·refine lM (.func (.func 67) #[] #[]) <| go ?_;obtain ⟨e_23, hj_24, hm⟩ := bZ hm;refine lV (.int .u8 e_23) (r_indexS (s := p0_s) Tryz.underlying9 rfl rfl hj_24) <| go ?_;obtain ⟨r_25, hr_26, hm⟩ := bZ hm;refine lc rfl rfl (r_callv1 Tryz.call67 rfl rfl) (c_lex_digit (col := col_3) hr_26 :) ?_;rintro _ w_27 ⟨rfl, hg_28⟩;refine ⟨_, rfl, ?_⟩;replace hg_28 : Grow col_3 w_2 col_3 w_27 := .of_below hg_28;refine lV (.bool r_25) (r_pickT (congrArg Value.bool hg_22) rfl) <| lnil ?_;replace hst := hst.grow hg_28;exact ⟨rfl, _, _, hm, hst, rfl⟩
  refine lV (.bool false) (r_pickF (congrArg Value.bool hg_22) rfl) <| lnil ?_;exact ⟨rfl, _, _, hm, hst, rfl⟩
def m_lex_number_J2 (n_7 : Int) : Option (Int × ByteArray) :=
  some (n_7, ⟨#[]⟩)
def m_lex_number_J4 (N : Nat) (p0_s : ByteArray) (n_7 : Int) (k_27 : Int) : Option (Int × ByteArray) :=
  (m_lex_run_v2f67 N p0_s k_27).bind fun r_28 => if (decide (0 < r_28)) = true then (chk ((0 : Int) ≤ k_27 ∧ k_27 ≤ (IntKind.i64.wrap (k_27 + r_28)) ∧ (IntKind.i64.wrap (k_27 + r_28)) ≤ (p0_s.size : Int)) (some (IntKind.i64.wrap (k_27 + r_28), p0_s.extract (Int.toNat k_27) (Int.toNat (IntKind.i64.wrap (k_27 + r_28)))))) else (m_lex_number_J2 n_7)
def m_lex_number_J5 (N : Nat) (p0_s : ByteArray) (n_7 : Int) (v_48 : Bool) : Option (Int × ByteArray) :=
  if v_48 = true then (m_lex_number_J4 N p0_s n_7 (IntKind.i64.wrap ((IntKind.i64.wrap (n_7 + 1)) + 1))) else (m_lex_number_J4 N p0_s n_7 (IntKind.i64.wrap (n_7 + 1)))
def m_lex_number_J3 (N : Nat) (p0_s : ByteArray) (n_7 : Int) (v_24 : Bool) : Option (Int × ByteArray) :=
  if v_24 = true then (if (decide ((IntKind.i64.wrap (n_7 + 1)) < (p0_s.size : Int))) = true then ((bat? p0_s (IntKind.i64.wrap (n_7 + 1))).bind fun e_50 => if (decide (e_50 = 43)) = true then (m_lex_number_J5 N p0_s n_7 true) else ((bat? p0_s (IntKind.i64.wrap (n_7 + 1))).bind fun e_53 => m_lex_number_J5 N p0_s n_7 (decide (e_53 = 45)))) else (m_lex_number_J5 N p0_s n_7 false)) else (m_lex_number_J2 n_7)
def m_lex_number_J1 (N : Nat) (p0_s : ByteArray) (n_7 : Int) : Option (Int × ByteArray) :=
  if (decide (n_7 < (p0_s.size : Int))) = true then ((bat? p0_s n_7).bind fun e_56 => if (decide (e_56 = 101)) = true then (m_lex_number_J3 N p0_s n_7 true) else ((bat? p0_s n_7).bind fun e_59 => m_lex_number_J3 N p0_s n_7 (decide (e_59 = 69)))) else (m_lex_number_J3 N p0_s n_7 false)
def m_lex_number_J6 (N : Nat) (p0_s : ByteArray) (r_1 : Int) (v_69 : Bool) : Option (Int × ByteArray) :=
  if v_69 = true then ((m_lex_run_v2f67 N p0_s (IntKind.i64.wrap (r_1 + 1))).bind fun r_70 => if (decide (0 < r_70)) = true then (m_lex_number_J1 N p0_s (IntKind.i64.wrap (r_1 + (IntKind.i64.wrap (1 + r_70))))) else (m_lex_number_J1 N p0_s r_1)) else (m_lex_number_J1 N p0_s r_1)
def m_lex_number (N : Nat) (p0_s : ByteArray) : Option (Int × ByteArray) :=
  (m_lex_run_v2f67 N p0_s 0).bind fun r_1 => if (decide (r_1 < (p0_s.size : Int))) = true then ((bat? p0_s r_1).bind fun e_75 => m_lex_number_J6 N p0_s r_1 (decide (e_75 = 46))) else (m_lex_number_J6 N p0_s r_1 false)
theorem c_lex_number {N : Nat} {col : Col} {w0 : World} {p0_s : ByteArray} {r : (Int × ByteArray)} (hm : m_lex_number N p0_s = some r)  :
    Calls Tryz.prog 68 #[(.string p0_s)] w0 (fun e w' => e = .returned (.tuple #[(.int .i64 r.1), (.string r.2)]) ∧ Below w0.heap.size w0 w') := by
 refine calls_of2 2 3 (m := 81) (args := [(.string p0_s)]) Tryz.func68 rfl rfl rfl rfl rfl ?_;rw [m_lex_number.eq_1] at hm;have hst := St.start col w0;refine go ?_;obtain ⟨r_1, hr_2, hm⟩ := bZ hm;refine lcA (c_lex_run_v2f67 (col := (col0 col)) hr_2) ?_;rintro _ w_3 ⟨rfl, hg_4⟩;refine ⟨_, rfl, ?_⟩;replace hg_4 : Grow (col0 col) w0 (col0 col) w_3 := .of_below hg_4;refine lAI rfl <| lnil <| wseq ?_;replace hst := hst.grow hg_4;refine Wp.cutK [0, 1000000] (fun f w_5 => ∃ col_6 n_7, m_lex_number_J1 N p0_s n_7 = some r ∧ St w0 (col0 col) col_6 w_5 ∧ [4].map f = [.int .i64 n_7]) ?_ ?_
 ·intro f w_5 hJ;obtain ⟨col_6, n_7, hm, hst, hs⟩ := hJ;rw [m_lex_number_J1.eq_1] at hm;refine .lL [4] hs <| wseq ?_;refine Wp.cutK [4, 1000000] (fun f w_8 => ∃ col_9, m_lex_number_J2 n_7  = some r ∧ St w0 (col0 col) col_9 w_8) ?_ ?_
  ·intro f w_8 hJ;obtain ⟨col_9, hm, hst⟩ := hJ;rw [m_lex_number_J2.eq_1] at hm;refine go ?_;cases hm;exact ⟨rfl, rfl, hst.below⟩
  refine wseq ?_;refine Wp.cutK [0, 4, 1000000] (fun f w_22 => ∃ col_23 v_24, m_lex_number_J3 N p0_s n_7 v_24 = some r ∧ St w0 (col0 col) col_23 w_22 ∧ [45].map f = [.bool v_24]) ?_ ?_
  ·intro f w_22 hJ;obtain ⟨col_23, v_24, hm, hst, hs⟩ := hJ;rw [m_lex_number_J3.eq_1] at hm;refine .lL [45] hs ?_;refine wcb hm (fun hb hm => ?_) fun hb hm => ?_
   ·refine wseq <| wregion <| lMI rfl <| lV _ (r_add _ _ rfl rfl) <| lAI rfl <| lnil <| wseq ?_;refine Wp.cutK [0, 4, 1000000] (fun f w_25 => ∃ col_26 k_27, m_lex_number_J4 N p0_s n_7 k_27 = some r ∧ St w0 (col0 col) col_26 w_25 ∧ [6].map f = [.int .i64 k_27]) ?_ ?_
    ·intro f w_25 hJ;obtain ⟨col_26, k_27, hm, hst, hs⟩ := hJ;rw [m_lex_number_J4.eq_1] at hm;refine .lL [6] hs <| go ?_;obtain ⟨r_28, hr_29, hm⟩ := bZ hm;refine lcA (c_lex_run_v2f67 (col := col_26) hr_29) ?_;rintro _ w_30 ⟨rfl, hg_31⟩;refine ⟨_, rfl, ?_⟩;replace hg_31 : Grow col_26 w_25 col_26 w_30 := .of_below hg_31;refine go ?_;replace hst := hst.grow hg_31;refine wcb hm (fun hb hm => ?_) fun hb hm => ?_
     ·refine wseq <| wquiet (col := col_26) (by kernel_rfl) (by kernel_rfl) <| go ?_;obtain ⟨hb_32, hm⟩ := chk_some hm;refine qv (v := (.string (p0_s.extract (Int.toNat k_27) (Int.toNat (IntKind.i64.wrap (k_27 + r_28)))))) rfl (fun _ hC => r_strLH Tryz.underlying9 rfl rfl rfl hb_32) ?_;refine go ?_;refine qnil ?_;intro w_33 hC;replace hC := hC.bl col_26;refine wret ?_;cases hm;replace hst := hst.grow hC;exact ⟨rfl, rfl, hst.below⟩
     refine wskip ?_;exact ⟨rfl, _, hm, hst⟩
    refine wseq ?_;refine Wp.cutK [0, 4, 6, 1000000] (fun f w_46 => ∃ col_47 v_48, m_lex_number_J5 N p0_s n_7 v_48 = some r ∧ St w0 (col0 col) col_47 w_46 ∧ [63].map f = [.bool v_48]) ?_ ?_
    ·intro f w_46 hJ;obtain ⟨col_47, v_48, hm, hst, hs⟩ := hJ;rw [m_lex_number_J5.eq_1] at hm;refine .lL [63] hs ?_;refine wcb hm (fun hb hm => go ?_) fun hb hm => ?_
     ·exact ⟨rfl, _, _, hm, hst, rfl⟩
     refine wskip ?_;exact ⟨rfl, _, _, hm, hst, rfl⟩
    refine go ?_;refine bcb hm (fun hg_49 hm => go ?_) fun hg_49 hm => go ?_
    ·obtain ⟨e_50, hj_51, hm⟩ := bZ hm;refine lV (.int .u8 e_50) (r_indexS (s := p0_s) Tryz.underlying9 rfl rfl hj_51) <| go ?_;refine bcb hm (fun hg_52 hm => go ?_) fun hg_52 hm => go ?_
     ·refine lV (.bool true) (r_pickT (congrArg Value.bool hg_52) rfl) <| lV (.bool true) (r_pickT (congrArg Value.bool hg_49) rfl) <| lnil ?_;exact ⟨rfl, _, _, hm, hst, rfl⟩
     obtain ⟨e_53, hj_54, hm⟩ := bZ hm;refine lV (.int .u8 e_53) (r_indexS (s := p0_s) Tryz.underlying9 rfl rfl hj_54) <| go ?_;refine lV (.bool (decide (e_53 = 45))) (r_pickF (congrArg Value.bool hg_52) rfl) <| lV (.bool (decide (e_53 = 45))) (r_pickT (congrArg Value.bool hg_49) rfl) <| lnil ?_;exact ⟨rfl, _, _, hm, hst, rfl⟩
    refine lpU 57 rfl rfl rfl rfl <| lpU 57 rfl rfl rfl rfl <| lpU 57 rfl rfl rfl rfl <| lpU 57 rfl rfl rfl rfl <| go ?_;refine lV (.bool false) (r_pickF (congrArg Value.bool hg_49) rfl) <| lnil ?_;exact ⟨rfl, _, _, hm, hst, rfl⟩
   refine wskip ?_;exact ⟨rfl, _, hm, hst⟩
  refine go ?_;refine bcb hm (fun hg_55 hm => go ?_) fun hg_55 hm => go ?_
  ·obtain ⟨e_56, hj_57, hm⟩ := bZ hm;refine lV (.int .u8 e_56) (r_indexS (s := p0_s) Tryz.underlying9 rfl rfl hj_57) <| go ?_;refine bcb hm (fun hg_58 hm => go ?_) fun hg_58 hm => go ?_
   ·refine lV (.bool true) (r_pickT (congrArg Value.bool hg_58) rfl) <| lV (.bool true) (r_pickT (congrArg Value.bool hg_55) rfl) <| lnil ?_;exact ⟨rfl, _, _, hm, hst, rfl⟩
   obtain ⟨e_59, hj_60, hm⟩ := bZ hm;refine lV (.int .u8 e_59) (r_indexS (s := p0_s) Tryz.underlying9 rfl rfl hj_60) <| go ?_;refine lV (.bool (decide (e_59 = 69))) (r_pickF (congrArg Value.bool hg_58) rfl) <| lV (.bool (decide (e_59 = 69))) (r_pickT (congrArg Value.bool hg_55) rfl) <| lnil ?_;exact ⟨rfl, _, _, hm, hst, rfl⟩
  refine lpU 39 rfl rfl rfl rfl <| lpU 39 rfl rfl rfl rfl <| lpU 39 rfl rfl rfl rfl <| lpU 39 rfl rfl rfl rfl <| go ?_;refine lV (.bool false) (r_pickF (congrArg Value.bool hg_55) rfl) <| lnil ?_;exact ⟨rfl, _, _, hm, hst, rfl⟩
 refine wseq ?_;refine Wp.cutK [0, 4, 1000000] (fun f w_67 => ∃ col_68 v_69, m_lex_number_J6 N p0_s r_1 v_69 = some r ∧ St w0 (col0 col) col_68 w_67 ∧ [19].map f = [.bool v_69]) ?_ ?_
 ·intro f w_67 hJ;obtain ⟨col_68, v_69, hm, hst, hs⟩ := hJ;rw [m_lex_number_J6.eq_1] at hm;refine .lL [19] hs ?_;refine wcb hm (fun hb hm => go ?_) fun hb hm => ?_
  ·obtain ⟨r_70, hr_71, hm⟩ := bZ hm;refine lcA (c_lex_run_v2f67 (col := col_68) hr_71) ?_;rintro _ w_72 ⟨rfl, hg_73⟩;refine ⟨_, rfl, ?_⟩;replace hg_73 : Grow col_68 w_67 col_68 w_72 := .of_below hg_73;refine go ?_;replace hst := hst.grow hg_73;refine wcb hm (fun hb hm => go ?_) fun hb hm => ?_
   ·exact ⟨rfl, _, _, hm, hst, rfl⟩
   refine wskip ?_;exact ⟨rfl, _, _, hm, hst, rfl⟩
  refine wskip ?_;exact ⟨rfl, _, _, hm, hst, rfl⟩
 refine go ?_;refine bcb hm (fun hg_74 hm => go ?_) fun hg_74 hm => go ?_
 ·obtain ⟨e_75, hj_76, hm⟩ := bZ hm;refine lV (.int .u8 e_75) (r_indexS (s := p0_s) Tryz.underlying9 rfl rfl hj_76) <| go ?_;refine lV (.bool (decide (e_75 = 46))) (r_pickT (congrArg Value.bool hg_74) rfl) <| lnil ?_;exact ⟨rfl, _, _, hm, hst, rfl⟩
 refine lV (.bool false) (r_pickF (congrArg Value.bool hg_74) rfl) <| lnil ?_;exact ⟨rfl, _, _, hm, hst, rfl⟩
theorem c_strings_TrimLeft (col : Col) (w0 : World) (p0_s : ByteArray) (p1_cutset : ByteArray) (r : ByteArray) (hm : m_triml p0_s p1_cutset = some r) :
    Calls Tryz.prog 91 #[(.string p0_s), (.string p1_cutset)] w0 (fun e w' => e = .returned ((.string r)) ∧ Below w0.heap.size w0 w') :=
  triml_c  col w0 p0_s p1_cutset r hm
def m_lex_large_J1 (v_11 : Bool) : Option Bool :=
  some v_11
def m_lex_large (p0_digits : ByteArray) : Option Bool :=
  (m_triml p0_digits (⟨#[48]⟩)).bind fun r_1 => if (decide (4 < (r_1.size : Int))) = true then (m_lex_large_J1 true) else (if (decide ((r_1.size : Int) = 4)) = true then (m_lex_large_J1 (gtS r_1 (⟨#[49, 48, 48, 48]⟩))) else (m_lex_large_J1 false))
theorem c_lex_large {col : Col} {w0 : World} {p0_digits : ByteArray} {r : Bool} (hm : m_lex_large p0_digits = some r)  :
    Calls Tryz.prog 69 #[(.string p0_digits)] w0 (fun e w' => e = .returned ((.bool r)) ∧ Below w0.heap.size w0 w') := by
 refine calls_of1 2 (m := 17) Tryz.func69 rfl rfl rfl rfl rfl ?_;rw [m_lex_large.eq_1] at hm;have hst := St.start col w0;refine go ?_;obtain ⟨r_1, hr_2, hm⟩ := bZ hm;refine lcA (c_strings_TrimLeft (col0 col) _ p0_digits (⟨#[48]⟩) r_1 hr_2) ?_;rintro _ w_3 ⟨rfl, hg_4⟩;refine ⟨_, rfl, ?_⟩;replace hg_4 : Grow (col0 col) w0 (col0 col) w_3 := .of_below hg_4;refine lAT rfl <| lnil <| wseq ?_;replace hst := hst.grow hg_4;refine Wp.cutK [1000000] (fun f w_9 => ∃ col_10 v_11, m_lex_large_J1 v_11 = some r ∧ St w0 (col0 col) col_10 w_9 ∧ [2].map f = [.bool v_11]) ?_ ?_
 ·intro f w_9 hJ;obtain ⟨col_10, v_11, hm, hst, hs⟩ := hJ;rw [m_lex_large_J1.eq_1] at hm;refine .lL [2] hs <| wret ?_;cases hm;exact ⟨rfl, rfl, hst.below⟩
 refine go ?_;refine bcb hm (fun hg_12 hm => go ?_) fun hg_12 hm => go ?_
 ·refine lpU 12 rfl rfl rfl rfl <| lpU 12 rfl rfl rfl rfl <| go ?_;refine lV (.bool true) (r_pickT (congrArg Value.bool hg_12) rfl) <| go ?_;exact ⟨rfl, _, _, hm, hst, rfl⟩
 refine bcb hm (fun hg_13 hm => go ?_) fun hg_13 hm => go ?_
 ·refine lV (.bool (gtS r_1 (⟨#[49, 48, 48, 48]⟩))) (r_gtrS rfl rfl) <| go ?_;refine lV (.bool (gtS r_1 (⟨#[49, 48, 48, 48]⟩))) (r_pickT (congrArg Value.bool hg_13) rfl) <| lV (.bool (gtS r_1 (⟨#[49, 48, 48, 48]⟩))) (r_pickF (congrArg Value.bool hg_12) rfl) <| go ?_;exact ⟨rfl, _, _, hm, hst, rfl⟩
 refine lV (.bool false) (r_pickF (congrArg Value.bool hg_13) rfl) <| lV (.bool false) (r_pickF (congrArg Value.bool hg_12) rfl) <| go ?_;exact ⟨rfl, _, _, hm, hst, rfl⟩
theorem c_strings_Builder_String (col : Col) (w0 : World) (qc0 : Nat) (qc0_1 : Nat) (hd : dstB [qc0, qc0_1] = true) (g0 : Nat) (p0_b : (Bool × (List Int))) (a0_2 : Option Addr) (cap0_2 : Nat) (h0_2 : Own (Rep.int .u8) 5 qc0_1 col w0 a0_2 cap0_2 p0_b.2) (hb0 : Box 163 qc0 col w0 g0 #[(.pointer (bif p0_b.1 then some ⟨g0, 0, none⟩ else none)), (.slice a0_2 p0_b.2.length cap0_2)]) (r : ByteArray) (hm : m_bstr1 p0_b = some r) :
    Calls Tryz.prog 92 #[(.pointer (some ⟨g0, 0, none⟩))] w0 (fun e w' => ∃ (col' : Col), e = .returned ((.string r)) ∧ KeepP (pS [qc0, qc0_1]) col w0 col' w') :=
  bstr1_emb  col w0 qc0 qc0_1 hd g0 p0_b a0_2 cap0_2 h0_2 hb0 r hm
theorem c_strings_Builder_copyCheck (col : Col) (w0 : World) (qc0 : Nat) (qc0_1 : Nat) (hd : dstB [qc0, qc0_1] = true) (g0 : Nat) (p0_b : (Bool × (List Int))) (a0_2 : Option Addr) (cap0_2 : Nat) (h0_2 : Own (Rep.int .u8) 5 qc0_1 col w0 a0_2 cap0_2 p0_b.2) (hb0 : Box 163 qc0 col w0 g0 #[(.pointer (bif p0_b.1 then some ⟨g0, 0, none⟩ else none)), (.slice a0_2 p0_b.2.length cap0_2)]) (r : (Bool × (List Int))) (hm : m_bcc1 p0_b = some r) :
    Calls Tryz.prog 108 #[(.pointer (some ⟨g0, 0, none⟩))] w0 (fun e w' => ∃ (col' : Col) (oa1 : Option Addr) (oc2 : Nat), e = .returned (.tuple #[]) ∧ KeepP (pS [qc0, qc0_1]) col w0 col' w' ∧ Own (Rep.int .u8) 5 qc0_1 col' w' oa1 oc2 r.2 ∧ Box 163 qc0 col' w' g0 #[(.pointer (bif r.1 then some ⟨g0, 0, none⟩ else none)), (.slice oa1 r.2.length oc2)]) :=
  bcc1_emb  col w0 qc0 qc0_1 hd g0 p0_b a0_2 cap0_2 h0_2 hb0 r hm
theorem el5_93 : ElemOk Tryz.prog 5 1 1 := ⟨Tryz.t5, _, rfl, rfl, rfl, rfl, rfl⟩
def m_strings_Builder_WriteByte (p0_b : (Bool × (List Int))) (p1_c : Int) : Option ((Option (Int × Int × Int × ByteArray)) × (Bool × (List Int))) :=
  (m_bcc1 (p0_b.1, p0_b.2)).bind fun r_1 => chk ((r_1.2.length + [p1_c].length) * 1 ≤ 140737488355328 ∧ r_1.2.length + [p1_c].length ≤ maxLen) (some ((none : (Option (Int × Int × Int × ByteArray))), (r_1.1, r_1.2 ++ [p1_c])))
theorem c_strings_Builder_WriteByte {g0 cap0_2 : Nat} {a0_2 : Option Addr} {col : Col} {w0 : World} {p0_b : (Bool × (List Int))} {p1_c : Int} {r : ((Option (Int × Int × Int × ByteArray)) × (Bool × (List Int)))} (qc0 qc0_1 : Nat) (hm : m_strings_Builder_WriteByte p0_b p1_c = some r) (hd : dstB [qc0, qc0_1] = true) (h0_2 : Own (Rep.int .u8) 5 qc0_1 col w0 a0_2 cap0_2 p0_b.2) (hb0 : Box 163 qc0 col w0 g0 #[(.pointer (bif p0_b.1 then some ⟨g0, 0, none⟩ else none)), (.slice a0_2 p0_b.2.length cap0_2)]) :
    Calls Tryz.prog 93 #[(.pointer (some ⟨g0, 0, none⟩)), (.int .u8 p1_c)] w0 (fun e w' => ∃ (col' : Col) (rv1 : Value) (oa3 : Option Addr) (oc4 : Nat), e = .returned (rv1) ∧ KeepP (pS [qc0, qc0_1]) col w0 col' w' ∧ Rd (Rep.err 57 26 (Rep.pair (Rep.int .i64) (Rep.pair (Rep.int .i64) (Rep.pair (Rep.int .i64) Rep.str)))) col' w' [rv1] r.1 ∧ Own (Rep.int .u8) 5 qc0_1 col' w' oa3 oc4 r.2.2 ∧ Box 163 qc0 col' w' g0 #[(.pointer (bif r.2.1 then some ⟨g0, 0, none⟩ else none)), (.slice oa3 r.2.2.length oc4)]) := by
 refine calls_of1 4 (m := 17) Tryz.func93 rfl rfl rfl rfl rfl ?_;rw [m_strings_Builder_WriteByte.eq_1] at hm;have hst := St.startL (l := [qc0, qc0_1]) rfl col w0;replace hb0 := hb0.startL (dst_nz hd 0 rfl) (dst_ix hd 0 rfl);replace h0_2 := h0_2.startL (dst_nz hd 1 rfl) (dst_ix hd 1 rfl);refine go ?_;refine lv (v := .nilIface) rfl rfl (r_assign rfl) <| go ?_;obtain ⟨r_1, hr_2, hm⟩ := bZ hm;refine lcA (c_strings_Builder_copyCheck (colL [qc0, qc0_1] col) _ 440 441 rfl g0 (p0_b.1, p0_b.2) a0_2 cap0_2 h0_2 hb0 r_1 hr_2) ?_;rintro _ w_7 ⟨col_9, oa_3, oc_4, rfl, hg_8, oh_5, ohb_6⟩;refine ⟨_, rfl, go ?_⟩;refine lV (.pointer (some ⟨g0, 0, none⟩)) (r_nilCheck rfl) <| lFLb ohb_6 <| lMI rfl <| l_litI (col := col_9) [p1_c] 1 ?_;intro a_10 w_11 col_12 hg_13 h_14;obtain ⟨hb_15, hm⟩ := chk_some hm;replace oh_5 := oh_5.gr hg_13;refine l_ext (col := col_12) (w := w_11) (r := (Rep.int .u8)) (c := 441) (c2 := 441) (oh_5.ex) (h_14.srcN (NB.int (k := .u8))) rfl Tryz.underlying144 el5_93 rfl rfl rfl hb_15.1 hb_15.2 (by decide) ?_;intro a_16 cap_17 w_18 col_19 hk_20 h_21;refine lV (.pointer (some ⟨g0, 0, none⟩)) (r_nilCheck rfl) <| lFa ⟨_, _, rfl⟩ ?_;replace ohb_6 := (ohb_6.gr hg_13).kpp hk_20;refine l_bstoreF (off := 1) (v := (.slice a_16 ((r_1.2 ++ [p1_c]).length) cap_17)) ohb_6 Tryz.sizeOf144 rfl rfl (by intro u hu; simp only [Value.cells, List.mem_cons, List.not_mem_nil, or_false] at hu; subst hu; rfl) rfl rfl ?_;intro w_22 hk_23 hs_24 hb_25;replace hb_25 : Box 163 440 col_19 w_22 g0 #[(.pointer (bif r_1.1 then some ⟨g0, 0, none⟩ else none)), (.slice a_16 ((r_1.2 ++ [p1_c]).length) cap_17)] := hb_25;replace h_21 := h_21.kp hk_23;have h_26 := h_21.new;refine go ?_;refine lv (v := .nilIface) rfl rfl (r_assign rfl) <| go ?_;cases hm;replace hst := (((hst.kpp hg_8).grow hg_13).kpp hk_20).kp hk_23 hs_24;exact ⟨rfl, colFL w0.heap.size [qc0, qc0_1] col col_19 (fun n => bif Nat.beq n 441 then qc0_1 else bif Nat.beq n 440 then qc0 else 0), .nilIface, a_16, cap_17, rfl, hst.finL rfl (fun n => bif Nat.beq n 441 then qc0_1 else bif Nat.beq n 440 then qc0 else 0), rd_nilerr, hst.finOwnL (g := (fun n => bif Nat.beq n 441 then qc0_1 else bif Nat.beq n 440 then qc0 else 0)) rfl h_26 (by decide) (by decide) rfl, hst.finBoxL (g := (fun n => bif Nat.beq n 441 then qc0_1 else bif Nat.beq n 440 then qc0 else 0)) hb_25 (by decide) (by decide) rfl⟩
def m_lex_meant_J1 (kk_L1 : (Bool → (List Int) → Int → Option (ByteArray × Int × Bool))) (b_17 : Bool) (b_18 : List Int) (i_22 : Int) : Option (ByteArray × Int × Bool) :=
  kk_L1 b_17 b_18 (IntKind.i64.wrap (i_22 + 1))
def m_lex_meant_J2 (p0_s : ByteArray) (b_9 : Bool) (b_10 : List Int) (i_14 : Int) (kk_L1 : (Bool → (List Int) → Int → Option (ByteArray × Int × Bool))) : Option (ByteArray × Int × Bool) :=
  (bat? p0_s (IntKind.i64.wrap (i_14 + 1))).bind fun e_32 => (m_strings_Builder_WriteByte (b_9, b_10) e_32).bind fun r_34 => m_lex_meant_J1 kk_L1 r_34.2.1 r_34.2.2 (IntKind.i64.wrap (i_14 + 1))
def m_lex_meant_J3 (p0_s : ByteArray) (b_9 : Bool) (b_10 : List Int) (i_14 : Int) (kk_L1 : (Bool → (List Int) → Int → Option (ByteArray × Int × Bool))) (v_59 : Bool) : Option (ByteArray × Int × Bool) :=
  if v_59 = true then (some (⟨#[]⟩, 0, false)) else (m_lex_meant_J2 p0_s b_9 b_10 i_14 kk_L1)
def m_lex_meant_L1 (N : Nat) (p0_s : ByteArray) : Nat → Bool → (List Int) → Int → Option (ByteArray × Int × Bool)
  | 0, _, _, _ => none
  | n_6 + 1, b_9, b_10, i_14 => if (decide (i_14 < (p0_s.size : Int))) = true then ((bat? p0_s i_14).bind fun e_23 => if (decide (e_23 = 34)) = true then ((m_bstr1 (b_9, b_10)).bind fun r_25 => some (r_25, IntKind.i64.wrap (i_14 + 1), true)) else (if (decide (e_23 = 10)) = true then (some (⟨#[]⟩, 0, false)) else (if (decide (e_23 = 92)) = true then (if (decide ((IntKind.i64.wrap (i_14 + 1)) = (p0_s.size : Int))) = true then (m_lex_meant_J3 p0_s b_9 b_10 i_14 (m_lex_meant_L1 N p0_s n_6) true) else ((bat? p0_s (IntKind.i64.wrap (i_14 + 1))).bind fun e_61 => if (!decide (e_61 = 34)) = true then ((bat? p0_s (IntKind.i64.wrap (i_14 + 1))).bind fun e_64 => m_lex_meant_J3 p0_s b_9 b_10 i_14 (m_lex_meant_L1 N p0_s n_6) (!decide (e_64 = 92))) else (m_lex_meant_J3 p0_s b_9 b_10 i_14 (m_lex_meant_L1 N p0_s n_6) false))) else ((m_strings_Builder_WriteByte (b_9, b_10) e_23).bind fun r_66 => m_lex_meant_J1 (m_lex_meant_L1 N p0_s n_6) r_66.2.1 r_66.2.2 i_14)))) else (some (⟨#[]⟩, 0, false))
termination_by structural x => x
def m_lex_meant (N : Nat) (p0_s : ByteArray) : Option (ByteArray × Int × Bool) :=
  m_lex_meant_L1 N p0_s N false ([] : List Int) 1
theorem c_lex_meant {N : Nat} {col : Col} {w0 : World} {p0_s : ByteArray} {r : (ByteArray × Int × Bool)} (hm : m_lex_meant N p0_s = some r)  :
    Calls Tryz.prog 70 #[(.string p0_s)] w0 (fun e w' => e = .returned (.tuple #[(.string r.1), (.int .i64 r.2.1), (.bool r.2.2)]) ∧ Below w0.heap.size w0 w') := by
 refine calls_of3 2 3 4 (m := 51) (args := [(.string p0_s)]) Tryz.func70 rfl rfl rfl rfl rfl ?_;rw [m_lex_meant.eq_1] at hm;have hst := St.start col w0;refine go ?_;refine l_allocA (col := (col0 col)) #[(.pointer none), (.slice none (([] : List Int).length) 0)] 1 Tryz.zeroValue163 ?_;intro g_1 w_2 col_3 hg_4 hb_5;refine go ?_;replace hst := hst.grow hg_4;refine wloopK [0, 5, 1000000] (fun n f w_7 => ∃ col_8 b_9 a_11 cap_12 b_10 i_14 n_6, n_6 = n ∧ m_lex_meant_L1 N p0_s n_6 b_9 b_10 i_14 = some r ∧ St w0 (col0 col) col_8 w_7 ∧ Own (Rep.int .u8) 5 2 col_8 w_7 a_11 cap_12 b_10 ∧ Box 163 1 col_8 w_7 g_1 #[(.pointer (bif b_9 then some ⟨g_1, 0, none⟩ else none)), (.slice a_11 b_10.length cap_12)] ∧ [6].map f = [.int .i64 i_14]) N ⟨_, _, none, 0, _, 1, _, rfl, hm, hst, Own.nil, hb_5, rfl⟩ ?_;clear hm; intro n f w_7 hI;obtain ⟨col_8, b_9, a_11, cap_12, b_10, i_14, n_6, hn, hm, hst, h_13, hb_5, hs⟩ := hI;subst hn;refine .lL [6] hs ?_
 cases n_6 with
 | zero => rw [m_lex_meant_L1.eq_1] at hm; cases hm
 | succ n_6 =>
  rw [m_lex_meant_L1.eq_2] at hm;refine go ?_;refine wcb hm (fun hb hm => ?_) fun hb hm => go ?_
  ·refine wskip <| wseq ?_;refine Wp.cutK [0, 5, 1000000] (fun f w_15 => ∃ col_16 b_17 a_19 cap_20 b_18 i_22, m_lex_meant_J1 (m_lex_meant_L1 N p0_s n_6) b_17 b_18 i_22 = some r ∧ St w0 (col0 col) col_16 w_15 ∧ Own (Rep.int .u8) 5 2 col_16 w_15 a_19 cap_20 b_18 ∧ Box 163 1 col_16 w_15 g_1 #[(.pointer (bif b_17 then some ⟨g_1, 0, none⟩ else none)), (.slice a_19 b_18.length cap_20)] ∧ [6].map f = [.int .i64 i_22]) ?_ ?_
   ·intro f w_15 hJ;obtain ⟨col_16, b_17, a_19, cap_20, b_18, i_22, hm, hst, h_21, hb_5, hs⟩ := hJ;rw [m_lex_meant_J1.eq_1] at hm;refine .lL [6] hs <| go ?_;exact ⟨n_6, by omega, rfl, ⟨_, _, _, _, _, _, _, rfl, hm, hst, h_21, hb_5, rfl⟩⟩
   refine go ?_;obtain ⟨e_23, hj_24, hm⟩ := bZ hm;refine lV (.int .u8 e_23) (r_indexS (s := p0_s) Tryz.underlying9 rfl rfl hj_24) <| go ?_;refine wcb hm (fun hb hm => go ?_) fun hb hm => go ?_
   ·obtain ⟨r_25, hr_26, hm⟩ := bZ hm;refine lcA (c_strings_Builder_String col_8 _ 1 2 rfl g_1 (b_9, b_10) a_11 cap_12 h_13 hb_5 r_25 hr_26) ?_;rintro _ w_27 ⟨col_29, rfl, hg_28⟩;refine ⟨_, rfl, go ?_⟩;cases hm;replace hst := hst.kpp hg_28;exact ⟨rfl, rfl, hst.below⟩
   refine wcb hm (fun hb hm => go ?_) fun hb hm => go ?_
   ·cases hm;exact ⟨rfl, rfl, hst.below⟩
   refine wcb hm (fun hb hm => ?_) fun hb hm => go ?_
   ·refine wseq <| wregion <| lMI rfl <| lV _ (r_add _ _ rfl rfl) <| lAI rfl <| lnil <| wseq ?_;refine Wp.cutK [0, 5, 6, 1000000] (fun f w_30 => ∃ col_31, m_lex_meant_J2 p0_s b_9 b_10 i_14 (m_lex_meant_L1 N p0_s n_6)  = some r ∧ St w0 (col0 col) col_31 w_30 ∧ Own (Rep.int .u8) 5 2 col_31 w_30 a_11 cap_12 b_10 ∧ Box 163 1 col_31 w_30 g_1 #[(.pointer (bif b_9 then some ⟨g_1, 0, none⟩ else none)), (.slice a_11 b_10.length cap_12)]) ?_ ?_
    ·intro f w_30 hJ;obtain ⟨col_31, hm, hst, h_13, hb_5⟩ := hJ;rw [m_lex_meant_J2.eq_1] at hm;refine go ?_;obtain ⟨e_32, hj_33, hm⟩ := bZ hm;refine lV (.int .u8 e_32) (r_indexS (s := p0_s) Tryz.underlying9 rfl rfl hj_33) ?_;obtain ⟨r_34, hr_35, hm⟩ := bZ hm;refine lcA (c_strings_Builder_WriteByte 1 2 hr_35 rfl h_13 hb_5) ?_;rintro _ w_42 ⟨col_44, rv_36, oa_38, oc_39, rfl, hg_43, rh_37, oh_40, ohb_41⟩;refine ⟨_, rfl, ?_⟩;refine lnil ?_;replace hst := hst.kpp hg_43;exact ⟨rfl, _, _, _, _, _, _, hm, hst, oh_40, ohb_41, rfl⟩
    refine wseq ?_;refine Wp.cutK [0, 5, 6, 1000000] (fun f w_57 => ∃ col_58 v_59, m_lex_meant_J3 p0_s b_9 b_10 i_14 (m_lex_meant_L1 N p0_s n_6) v_59 = some r ∧ St w0 (col0 col) col_58 w_57 ∧ Own (Rep.int .u8) 5 2 col_58 w_57 a_11 cap_12 b_10 ∧ Box 163 1 col_58 w_57 g_1 #[(.pointer (bif b_9 then some ⟨g_1, 0, none⟩ else none)), (.slice a_11 b_10.length cap_12)] ∧ [46].map f = [.bool v_59]) ?_ ?_
    ·intro f w_57 hJ;obtain ⟨col_58, v_59, hm, hst, h_13, hb_5, hs⟩ := hJ;rw [m_lex_meant_J3.eq_1] at hm;refine .lL [46] hs ?_;refine wcb hm (fun hb hm => go ?_) fun hb hm => ?_
     ·cases hm;exact ⟨rfl, rfl, hst.below⟩
     refine wskip ?_;exact ⟨rfl, _, hm, hst, h_13, hb_5⟩
    refine go ?_;refine bcb hm (fun hg_60 hm => go ?_) fun hg_60 hm => go ?_
    ·refine lpU 40 rfl rfl rfl rfl <| lpU 40 rfl rfl rfl rfl <| lpU 40 rfl rfl rfl rfl <| lpU 40 rfl rfl rfl rfl <| go ?_;refine lV (.bool true) (r_pickT (congrArg Value.bool hg_60) rfl) <| lnil ?_;exact ⟨rfl, _, _, hm, hst, h_13, hb_5, rfl⟩
    obtain ⟨e_61, hj_62, hm⟩ := bZ hm;refine lV (.int .u8 e_61) (r_indexS (s := p0_s) Tryz.underlying9 rfl rfl hj_62) <| go ?_;refine bcb hm (fun hg_63 hm => go ?_) fun hg_63 hm => go ?_
    ·obtain ⟨e_64, hj_65, hm⟩ := bZ hm;refine lV (.int .u8 e_64) (r_indexS (s := p0_s) Tryz.underlying9 rfl rfl hj_65) <| go ?_;refine lV (.bool (!decide (e_64 = 92))) (r_pickT (congrArg Value.bool hg_63) rfl) <| lV (.bool (!decide (e_64 = 92))) (r_pickF (congrArg Value.bool hg_60) rfl) <| lnil ?_;exact ⟨rfl, _, _, hm, hst, h_13, hb_5, rfl⟩
    refine lV (.bool false) (r_pickF (congrArg Value.bool hg_63) rfl) <| lV (.bool false) (r_pickF (congrArg Value.bool hg_60) rfl) <| lnil ?_;exact ⟨rfl, _, _, hm, hst, h_13, hb_5, rfl⟩
   obtain ⟨r_66, hr_67, hm⟩ := bZ hm;refine lcA (c_strings_Builder_WriteByte 1 2 hr_67 rfl h_13 hb_5) ?_;rintro _ w_74 ⟨col_76, rv_68, oa_70, oc_71, rfl, hg_75, rh_69, oh_72, ohb_73⟩;refine ⟨_, rfl, ?_⟩;refine lnil ?_;replace hst := hst.kpp hg_75;exact ⟨rfl, _, _, _, _, _, _, hm, hst, oh_72, ohb_73, rfl⟩
  cases hm;exact ⟨rfl, rfl, hst.below⟩
def m_lex_reader_next_J1 (r_6 : (Bool × (ByteArray × Int × Int × Int))) (v_39 : Int) (v_40 : ByteArray) (v_41 : Int) (v_42 : Int) (t_43 : Int) (t_44 : ByteArray) (t_45 : Int) (t_46 : Int) (n_47 : Int) : Option ((Int × ByteArray × Int × Int) × (Option (Int × Int × Int × ByteArray)) × (ByteArray × Int × Int × Int)) :=
  (m_lex_reader_pass (r_6.2.1, r_6.2.2.1, r_6.2.2.2.1, r_6.2.2.2.2) n_47).bind fun r_48 => some ((t_43, t_44, t_45, t_46), (none : (Option (Int × Int × Int × ByteArray))), (r_48.1, r_48.2.1, r_48.2.2.1, r_48.2.2.2))
def m_lex_reader_next_J2 (N : Nat) (r_6 : (Bool × (ByteArray × Int × Int × Int))) (r_102 : (Int × ByteArray)) (v_132 : Bool) : Option ((Int × ByteArray × Int × Int) × (Option (Int × Int × Int × ByteArray)) × (ByteArray × Int × Int × Int)) :=
  if v_132 = true then ((m_lex_run_v2f36 N (r_6.2.1.extract (Int.toNat r_6.2.2.1) (Int.toNat (r_6.2.1.size : Int))) r_102.1).bind fun r_133 => chk ((0 : Int) ≤ 0 ∧ 0 ≤ (IntKind.i64.wrap (r_102.1 + r_133)) ∧ (IntKind.i64.wrap (r_102.1 + r_133)) ≤ ((r_6.2.1.extract (Int.toNat r_6.2.2.1) (Int.toNat (r_6.2.1.size : Int))).size : Int)) ((m_fail 22 ((r_6.2.1.extract (Int.toNat r_6.2.2.1) (Int.toNat (r_6.2.1.size : Int))).extract (Int.toNat 0) (Int.toNat (IntKind.i64.wrap (r_102.1 + r_133)))) (2, (r_6.2.1.extract (Int.toNat r_6.2.2.1) (Int.toNat (r_6.2.1.size : Int))).extract (Int.toNat 0) (Int.toNat r_102.1), r_6.2.2.2.1, r_6.2.2.2.2)).bind fun r_138 => some ((r_138.1.1, r_138.1.2.1, r_138.1.2.2.1, r_138.1.2.2.2), r_138.2, (r_6.2.1, r_6.2.2.1, r_6.2.2.2.1, r_6.2.2.2.2)))) else (m_lex_reader_next_J1 r_6 0 (⟨#[]⟩) 0 0 2 ((r_6.2.1.extract (Int.toNat r_6.2.2.1) (Int.toNat (r_6.2.1.size : Int))).extract (Int.toNat 0) (Int.toNat r_102.1)) r_6.2.2.2.1 r_6.2.2.2.2 r_102.1)
def m_lex_reader_next (N : Nat) (p0_r : (ByteArray × Int × Int × Int)) : Option ((Int × ByteArray × Int × Int) × (Option (Int × Int × Int × ByteArray)) × (ByteArray × Int × Int × Int)) :=
  (m_lex_reader_blanks N (p0_r.1, p0_r.2.1, p0_r.2.2.1, p0_r.2.2.2)).bind fun r_6 => if (!r_6.1) = true then ((m_fail 21 (⟨#[47, 42]⟩) (0, ⟨#[]⟩, r_6.2.2.2.1, r_6.2.2.2.2)).bind fun r_24 => some ((r_24.1.1, r_24.1.2.1, r_24.1.2.2.1, r_24.1.2.2.2), r_24.2, (r_6.2.1, r_6.2.2.1, r_6.2.2.2.1, r_6.2.2.2.2))) else (chk ((0 : Int) ≤ r_6.2.2.1 ∧ r_6.2.2.1 ≤ (r_6.2.1.size : Int) ∧ (r_6.2.1.size : Int) ≤ (r_6.2.1.size : Int)) (if (decide ((r_6.2.1.extract (Int.toNat r_6.2.2.1) (Int.toNat (r_6.2.1.size : Int))) = (⟨#[]⟩))) = true then (some ((0, ⟨#[]⟩, r_6.2.2.2.1, r_6.2.2.2.2), (none : (Option (Int × Int × Int × ByteArray))), (r_6.2.1, r_6.2.2.1, r_6.2.2.2.1, r_6.2.2.2.2))) else ((bat? (r_6.2.1.extract (Int.toNat r_6.2.2.1) (Int.toNat (r_6.2.1.size : Int))) 0).bind fun e_62 => (m_lex_letter e_62).bind fun r_64 => if r_64 = true then ((m_lex_run_v2f36 N (r_6.2.1.extract (Int.toNat r_6.2.2.1) (Int.toNat (r_6.2.1.size : Int))) 0).bind fun r_68 => chk ((0 : Int) ≤ 0 ∧ 0 ≤ r_68 ∧ r_68 ≤ ((r_6.2.1.extract (Int.toNat r_6.2.2.1) (Int.toNat (r_6.2.1.size : Int))).size : Int)) (if (decide (64 < r_68)) = true then (chk ((0 : Int) ≤ 0 ∧ 0 ≤ r_68 ∧ r_68 ≤ ((r_6.2.1.extract (Int.toNat r_6.2.2.1) (Int.toNat (r_6.2.1.size : Int))).size : Int)) ((m_fail 20 ((r_6.2.1.extract (Int.toNat r_6.2.2.1) (Int.toNat (r_6.2.1.size : Int))).extract (Int.toNat 0) (Int.toNat r_68)) (1, (r_6.2.1.extract (Int.toNat r_6.2.2.1) (Int.toNat (r_6.2.1.size : Int))).extract (Int.toNat 0) (Int.toNat r_68), r_6.2.2.2.1, r_6.2.2.2.2)).bind fun r_85 => some ((r_85.1.1, r_85.1.2.1, r_85.1.2.2.1, r_85.1.2.2.2), r_85.2, (r_6.2.1, r_6.2.2.1, r_6.2.2.2.1, r_6.2.2.2.2)))) else (m_lex_reader_next_J1 r_6 0 (⟨#[]⟩) 0 0 1 ((r_6.2.1.extract (Int.toNat r_6.2.2.1) (Int.toNat (r_6.2.1.size : Int))).extract (Int.toNat 0) (Int.toNat r_68)) r_6.2.2.2.1 r_6.2.2.2.2 r_68))) else ((bat? (r_6.2.1.extract (Int.toNat r_6.2.2.1) (Int.toNat (r_6.2.1.size : Int))) 0).bind fun e_96 => (m_lex_digit e_96).bind fun r_98 => if r_98 = true then ((m_lex_number N (r_6.2.1.extract (Int.toNat r_6.2.2.1) (Int.toNat (r_6.2.1.size : Int)))).bind fun r_102 => chk ((0 : Int) ≤ 0 ∧ 0 ≤ r_102.1 ∧ r_102.1 ≤ ((r_6.2.1.extract (Int.toNat r_6.2.2.1) (Int.toNat (r_6.2.1.size : Int))).size : Int)) ((m_lex_large r_102.2).bind fun r_149 => if r_149 = true then (m_lex_reader_next_J2 N r_6 r_102 true) else (if (decide (r_102.1 < ((r_6.2.1.extract (Int.toNat r_6.2.2.1) (Int.toNat (r_6.2.1.size : Int))).size : Int))) = true then ((bat? (r_6.2.1.extract (Int.toNat r_6.2.2.1) (Int.toNat (r_6.2.1.size : Int))) r_102.1).bind fun e_155 => (m_lex_letter e_155).bind fun r_157 => m_lex_reader_next_J2 N r_6 r_102 r_157) else (m_lex_reader_next_J2 N r_6 r_102 false)))) else ((bat? (r_6.2.1.extract (Int.toNat r_6.2.2.1) (Int.toNat (r_6.2.1.size : Int))) 0).bind fun e_161 => if (decide (e_161 = 34)) = true then ((m_lex_meant N (r_6.2.1.extract (Int.toNat r_6.2.2.1) (Int.toNat (r_6.2.1.size : Int)))).bind fun r_167 => if (!r_167.2.2) = true then (chk ((0 : Int) ≤ 0 ∧ 0 ≤ (1 : Int) ∧ 1 ≤ ((r_6.2.1.extract (Int.toNat r_6.2.2.1) (Int.toNat (r_6.2.1.size : Int))).size : Int)) ((m_fail 21 ((r_6.2.1.extract (Int.toNat r_6.2.2.1) (Int.toNat (r_6.2.1.size : Int))).extract (Int.toNat 0) (Int.toNat 1)) (3, r_167.1, r_6.2.2.2.1, r_6.2.2.2.2)).bind fun r_176 => some ((r_176.1.1, r_176.1.2.1, r_176.1.2.2.1, r_176.1.2.2.2), r_176.2, (r_6.2.1, r_6.2.2.1, r_6.2.2.2.1, r_6.2.2.2.2)))) else (m_lex_reader_next_J1 r_6 0 (⟨#[]⟩) 0 0 3 r_167.1 r_6.2.2.2.1 r_6.2.2.2.2 r_167.2.1)) else ((bat? (r_6.2.1.extract (Int.toNat r_6.2.2.1) (Int.toNat (r_6.2.1.size : Int))) 0).bind fun e_187 => (m_idxb (⟨#[123, 125, 40, 41, 91, 93, 44, 59, 124, 61, 43, 45, 42, 47]⟩) e_187).bind fun r_189 => if (decide (0 ≤ r_189)) = true then (chk ((0 : Int) ≤ 0 ∧ 0 ≤ (1 : Int) ∧ 1 ≤ ((r_6.2.1.extract (Int.toNat r_6.2.2.1) (Int.toNat (r_6.2.1.size : Int))).size : Int)) (m_lex_reader_next_J1 r_6 0 (⟨#[]⟩) 0 0 4 ((r_6.2.1.extract (Int.toNat r_6.2.2.1) (Int.toNat (r_6.2.1.size : Int))).extract (Int.toNat 0) (Int.toNat 1)) r_6.2.2.2.1 r_6.2.2.2.2 1)) else (chk ((0 : Int) ≤ 0 ∧ 0 ≤ (1 : Int) ∧ 1 ≤ ((r_6.2.1.extract (Int.toNat r_6.2.2.1) (Int.toNat (r_6.2.1.size : Int))).size : Int)) ((m_fail 20 ((r_6.2.1.extract (Int.toNat r_6.2.2.1) (Int.toNat (r_6.2.1.size : Int))).extract (Int.toNat 0) (Int.toNat 1)) (0, ⟨#[]⟩, r_6.2.2.2.1, r_6.2.2.2.2)).bind fun r_206 => some ((r_206.1.1, r_206.1.2.1, r_206.1.2.2.1, r_206.1.2.2.2), r_206.2, (r_6.2.1, r_6.2.2.1, r_6.2.2.2.1, r_6.2.2.2.2))))))))))
theorem c_lex_reader_next {N g0 : Nat} {col : Col} {w0 : World} {p0_r : (ByteArray × Int × Int × Int)} {r : ((Int × ByteArray × Int × Int) × (Option (Int × Int × Int × ByteArray)) × (ByteArray × Int × Int × Int))} (qc0 : Nat) (hm : m_lex_reader_next N p0_r = some r) (hd : dstB [qc0] = true) (hb0 : Box 62 qc0 col w0 g0 #[(.string p0_r.1), (.int .i64 p0_r.2.1), (.int .i64 p0_r.2.2.1), (.int .i64 p0_r.2.2.2)]) (hgl : Gl (.iface 146 (.agg #[.pointer (some ⟨4, 30, none⟩)])) col w0) :
    Calls Tryz.prog 31 #[(.pointer (some ⟨g0, 0, none⟩))] w0 (fun e w' => ∃ (col' : Col) (rv1 : Value), e = .returned (.tuple #[(.agg #[(.int .i8 r.1.1), (.string r.1.2.1), (.int .i64 r.1.2.2.1), (.int .i64 r.1.2.2.2)]), rv1]) ∧ KeepP (pS [qc0]) col w0 col' w' ∧ Rd (Rep.err 57 26 (Rep.pair (Rep.int .i64) (Rep.pair (Rep.int .i64) (Rep.pair (Rep.int .i64) Rep.str)))) col' w' [rv1] r.2.1 ∧ Box 62 qc0 col' w' g0 #[(.string r.2.2.1), (.int .i64 r.2.2.2.1), (.int .i64 r.2.2.2.2.1), (.int .i64 r.2.2.2.2.2)]) := by
 refine calls_ofR (m := 140) Tryz.func31 rfl rfl rfl ?_;rw [m_lex_reader_next.eq_1] at hm;have hst := St.startL (l := [qc0]) rfl col w0;replace hb0 := hb0.startL (dst_nz hd 0 rfl) (dst_ix hd 0 rfl);refine go ?_;refine l_allocA (col := (colL [qc0] col)) #[(.int .i8 0), (.string (⟨#[]⟩)), (.int .i64 0), (.int .i64 0)] 1 Tryz.zeroValue38 ?_;intro g_1 w_2 col_3 hg_4 hb_5;refine lv (v := .nilIface) rfl rfl (r_assign rfl) <| go ?_;obtain ⟨r_6, hr_7, hm⟩ := bZ hm;replace hgl := (hgl.keep (Stay.startL [qc0] col w0)).gr hg_4;replace hb0 := hb0.gr hg_4;refine lcA (c_lex_reader_blanks 440 hr_7 rfl hb0 hgl) ?_;rintro _ w_9 ⟨col_11, rfl, hg_10, ohb_8⟩;refine ⟨_, rfl, go ?_⟩;refine wmix (col := col_11) [(0, 1), (1, 1), (2, 1), (3, 0), (4, 1), (5, 1), (6, 1), (7, 0), (8, 1), (9, 3), (10, 2)] (by kernel_rfl) (by kernel_rfl) <| xu rfl rfl (fun _ => r_mP rfl) ?_;refine xu (v := (.pointer (some ⟨g0, 0, none⟩))) rfl rfl (fun _ => r_nilCheck rfl) ?_;refine xF ⟨_, _, rfl⟩ ?_;refine xW (fun _ hC => ((ohb_8.atN).nth (q := 2) rfl).gr (hC.bl col_11)) ?_;refine xu rfl rfl (fun _ => r_mP rfl) ?_;refine xu (v := (.pointer (some ⟨g0, 0, none⟩))) rfl rfl (fun _ => r_nilCheck rfl) ?_;refine xF ⟨_, _, rfl⟩ ?_;refine xW (fun _ hC => ((ohb_8.atN).nth (q := 3) rfl).gr (hC.bl col_11)) ?_;refine xu (v := (.agg #[(.int .i8 0), (.string (⟨#[]⟩)), (.int .i64 r_6.2.2.2.1), (.int .i64 r_6.2.2.2.2)])) rfl rfl (fun _ => r_build (l := [_, _, _, _]) (qs := [(0, 1), (1, 1), (2, 1), (3, 1)]) Tryz.underlying38 Tryz.zeroValue38 ⟨rfl, Tryz.sizeOf36, rfl, Tryz.sizeOf9, rfl, Tryz.sizeOf3, rfl, Tryz.sizeOf3, trivial⟩ rfl) ?_;refine xe rfl rfl ?_;intro w_12 hC0;have hC := hC0.bl col_11;refine l_allocA (col := col_11) #[(.int .i8 0), (.string (⟨#[]⟩)), (.int .i64 0), (.int .i64 0)] 2 Tryz.zeroValue38 ?_;intro g_13 w_14 col_15 hg_16 hb_17;refine lnil <| xk3 col_15 hC0 hg_16 <| xe rfl rfl ?_;intro w_18 hC0;replace hst := (((hst.grow hg_4).kpp hg_10).grow hC).grow hg_16;replace hgl := ((hgl.kpp hg_10).gr hC).gr hg_16;replace hb_5 := ((hb_5.kpp hg_10).gr hC).gr hg_16;replace ohb_8 := (ohb_8.gr hC).gr hg_16;have hC := hC0.bl col_15;replace hb_17 := hb_17.gr hC;refine l_bsA hb_17 ?_;intro w_19 hk_20 hs_21 hb_22;refine lnil <| xk col_15 <| xnil ?_;replace hgl := (hgl.gr hC).kp hk_20;replace ohb_8 := (ohb_8.gr hC).kp hk_20;replace hb_5 := (hb_5.gr hC).kp hk_20;replace hst := (hst.grow hC).kp hk_20 hs_21;intro w_23 hC;replace hC := hC.bl col_15;refine go ?_;refine lV (.func (.func 66) #[] #[(.pointer (some ⟨g_13, 0, none⟩))]) (r_func1 rfl) <| lA (.func (.func 66) #[] #[(.pointer (some ⟨g_13, 0, none⟩))]) <| go ?_;replace hgl := hgl.gr hC;replace ohb_8 := ohb_8.gr hC;replace hb_5 := hb_5.gr hC;replace hb_22 := hb_22.gr hC;replace hst := hst.grow hC;refine wcb hm (fun hb hm => go ?_) fun hb hm => go ?_
 ·refine lM (.func (.func 66) #[] #[(.pointer (some ⟨g_13, 0, none⟩))]) ?_;obtain ⟨r_24, hr_25, hm⟩ := bZ hm;refine lc rfl rfl (r_callv2 Tryz.call66 rfl rfl rfl) (c_lex_reader_next_1 col_15 _ 2 (by decide) 21 (⟨#[47, 42]⟩) g_13 (0, ⟨#[]⟩, r_6.2.2.2.1, r_6.2.2.2.2) hb_22 r_24 hr_25) ?_;rintro _ w_28 ⟨col_30, rv_26, rfl, hg_29, rh_27⟩;refine ⟨_, rfl, ?_⟩;refine lV (.agg #[(.int .i8 r_24.1.1), (.string r_24.1.2.1), (.int .i64 r_24.1.2.2.1), (.int .i64 r_24.1.2.2.2)]) (r_extract rfl rfl) <| lv (v := rv_26) rfl rfl (r_extract rfl rfl) ?_;replace hb_5 := hb_5.gr hg_29;refine l_bsA hb_5 ?_;intro w_31 hk_32 hs_33 hb_34;refine lv (v := rv_26) rfl rfl (r_assign rfl) <| go ?_;cases hm;replace ohb_8 := (ohb_8.gr hg_29).kp hk_32;replace hst := (hst.grow hg_29).kp hk_32 hs_33;replace rh_27 := rh_27.kp hk_32;exact ⟨rfl, _, res_at rfl rfl Tryz.isAgg38 Tryz.sizeOf38 rfl rfl hb_34.atN rfl rfl, colFL w0.heap.size [qc0] col col_30 (fun n => bif Nat.beq n 440 then qc0 else 0), rv_26, rfl, hst.finL rfl (fun n => bif Nat.beq n 440 then qc0 else 0), hst.finRdL (g := (fun n => bif Nat.beq n 440 then qc0 else 0)) rfl rh_27, hst.finBoxL (g := (fun n => bif Nat.beq n 440 then qc0 else 0)) ohb_8 (by decide) (by decide) rfl⟩
 refine wquiet (col := col_15) (by kernel_rfl) (by kernel_rfl) <| go ?_;refine qv (v := (.pointer (some ⟨g0, 0, none⟩))) rfl (fun _ hC => r_nilCheck rfl) ?_;refine qF ⟨_, _, rfl⟩ ?_;refine qW (fun _ hC => ((ohb_8.atN).nth (q := 0) rfl).gr (hC.bl col_15)) ?_;refine go ?_;refine qv (v := (.pointer (some ⟨g0, 0, none⟩))) rfl (fun _ hC => r_nilCheck rfl) ?_;refine qF ⟨_, _, rfl⟩ ?_;refine qW (fun _ hC => ((ohb_8.atN).nth (q := 1) rfl).gr (hC.bl col_15)) ?_;obtain ⟨hb_35, hm⟩ := chk_some hm;refine qv (v := (.string (r_6.2.1.extract (Int.toNat r_6.2.2.1) (Int.toNat (r_6.2.1.size : Int))))) rfl (fun _ hC => r_strL Tryz.underlying9 rfl rfl hb_35) ?_;refine go ?_;refine qnil ?_;intro w_36 hC;replace hC := hC.bl col_15;refine wseq <| wregion <| lAI rfl <| lnil <| wseq ?_;replace hgl := hgl.gr hC;replace ohb_8 := ohb_8.gr hC;replace hb_5 := hb_5.gr hC;replace hb_22 := hb_22.gr hC;replace hst := hst.grow hC;refine Wp.cutK [0, 2, 5, 1000000] (fun f w_37 => ∃ col_38 v_39 v_40 v_41 v_42 t_43 t_44 t_45 t_46 n_47, m_lex_reader_next_J1 r_6 v_39 v_40 v_41 v_42 t_43 t_44 t_45 t_46 n_47 = some r ∧ St w0 (colL [qc0] col) col_38 w_37 ∧ Box 62 440 col_38 w_37 g0 #[(.string r_6.2.1), (.int .i64 r_6.2.2.1), (.int .i64 r_6.2.2.2.1), (.int .i64 r_6.2.2.2.2)] ∧ Box 38 1 col_38 w_37 g_1 #[(.int .i8 v_39), (.string v_40), (.int .i64 v_41), (.int .i64 v_42)] ∧ Box 38 2 col_38 w_37 g_13 #[(.int .i8 t_43), (.string t_44), (.int .i64 t_45), (.int .i64 t_46)] ∧ Gl (.iface 146 (.agg #[.pointer (some ⟨4, 30, none⟩)])) col_38 w_37 ∧ [8].map f = [.int .i64 n_47]) ?_ ?_
 ·intro f w_37 hJ;obtain ⟨col_38, v_39, v_40, v_41, v_42, t_43, t_44, t_45, t_46, n_47, hm, hst, ohb_8, hb_5, hb_22, hgl, hs⟩ := hJ;rw [m_lex_reader_next_J1.eq_1] at hm;refine .lL [8] hs <| go ?_;obtain ⟨r_48, hr_49, hm⟩ := bZ hm;refine lcA (c_lex_reader_pass 440 hr_49 rfl ohb_8) ?_;rintro _ w_51 ⟨col_53, rfl, hg_52, ohb_50⟩;refine ⟨_, rfl, go ?_⟩;replace hb_22 := hb_22.kpp hg_52;refine lV _ (r_ldB Tryz.isAgg38 Tryz.sizeOf38 hb_22) ?_;replace hb_5 := hb_5.kpp hg_52;refine l_bsA hb_5 ?_;intro w_54 hk_55 hs_56 hb_57;refine lv (v := .nilIface) rfl rfl (r_assign rfl) <| go ?_;cases hm;replace hst := (hst.kpp hg_52).kp hk_55 hs_56;replace ohb_50 := ohb_50.kp hk_55;exact ⟨rfl, _, res_at rfl rfl Tryz.isAgg38 Tryz.sizeOf38 rfl rfl hb_57.atN rfl rfl, colFL w0.heap.size [qc0] col col_53 (fun n => bif Nat.beq n 440 then qc0 else 0), .nilIface, rfl, hst.finL rfl (fun n => bif Nat.beq n 440 then qc0 else 0), rd_nilerr, hst.finBoxL (g := (fun n => bif Nat.beq n 440 then qc0 else 0)) ohb_50 (by decide) (by decide) rfl⟩
 refine go ?_;refine wcb hm (fun hb hm => go ?_) fun hb hm => go ?_
 ·refine lV _ (r_ldB Tryz.isAgg38 Tryz.sizeOf38 hb_22) <| l_bsA hb_5 ?_;intro w_58 hk_59 hs_60 hb_61;refine lv (v := .nilIface) rfl rfl (r_assign rfl) <| go ?_;cases hm;replace ohb_8 := ohb_8.kp hk_59;replace hst := hst.kp hk_59 hs_60;exact ⟨rfl, _, res_at rfl rfl Tryz.isAgg38 Tryz.sizeOf38 rfl rfl hb_61.atN rfl rfl, colFL w0.heap.size [qc0] col col_15 (fun n => bif Nat.beq n 440 then qc0 else 0), .nilIface, rfl, hst.finL rfl (fun n => bif Nat.beq n 440 then qc0 else 0), rd_nilerr, hst.finBoxL (g := (fun n => bif Nat.beq n 440 then qc0 else 0)) ohb_8 (by decide) (by decide) rfl⟩
 obtain ⟨e_62, hj_63, hm⟩ := bZ hm;refine lV (.int .u8 e_62) (r_indexS (s := (r_6.2.1.extract (Int.toNat r_6.2.2.1) (Int.toNat (r_6.2.1.size : Int)))) Tryz.underlying9 rfl rfl hj_63) ?_;obtain ⟨r_64, hr_65, hm⟩ := bZ hm;refine lcA (c_lex_letter (col := col_15) hr_65) ?_;rintro _ w_66 ⟨rfl, hg_67⟩;refine ⟨_, rfl, ?_⟩;replace hg_67 : Grow col_15 w_36 col_15 w_66 := .of_below hg_67;refine go ?_;replace hgl := hgl.gr hg_67;replace ohb_8 := ohb_8.gr hg_67;replace hb_5 := hb_5.gr hg_67;replace hb_22 := hb_22.gr hg_67;replace hst := hst.grow hg_67;refine wcb hm (fun hb hm => go ?_) fun hb hm => go ?_
 ·obtain ⟨r_68, hr_69, hm⟩ := bZ hm;refine lcA (c_lex_run_v2f36 (col := col_15) hr_69) ?_;rintro _ w_70 ⟨rfl, hg_71⟩;refine ⟨_, rfl, ?_⟩;replace hg_71 : Grow col_15 w_66 col_15 w_70 := .of_below hg_71;refine go ?_;refine wmix (col := col_15) [(0, 1), (1, 1), (2, 1), (3, 1), (4, 2), (5, 1), (6, 2)] (by kernel_rfl) (by kernel_rfl) <| xu rfl rfl (fun _ => r_mT rfl) ?_;refine xu rfl rfl (fun _ => r_mI rfl) ?_;obtain ⟨hb_72, hm⟩ := chk_some hm;refine xu (v := (.string ((r_6.2.1.extract (Int.toNat r_6.2.2.1) (Int.toNat (r_6.2.1.size : Int))).extract (Int.toNat 0) (Int.toNat r_68)))) rfl rfl (fun _ => r_strH Tryz.underlying9 rfl rfl hb_72) ?_;refine xF ⟨_, _, rfl⟩ ?_;refine xe rfl rfl ?_;intro w_73 hC0;have hC := hC0.bl col_15;replace hb_22 := (hb_22.gr hg_71).gr hC;refine l_bstoreF (off := 0) (v := (.int .i8 1)) hb_22 Tryz.sizeOf36 rfl rfl (by intro u hu; simp only [Value.cells, List.mem_cons, List.not_mem_nil, or_false] at hu; subst hu; rfl) rfl rfl ?_;intro w_74 hk_75 hs_76 hb_77;replace hb_77 : Box 38 2 col_15 w_74 g_13 #[(.int .i8 1), (.string (⟨#[]⟩)), (.int .i64 r_6.2.2.2.1), (.int .i64 r_6.2.2.2.2)] := hb_77;refine lnil <| xk col_15 <| xF ⟨_, _, rfl⟩ ?_;refine xe rfl rfl ?_;intro w_78 hC0;replace hgl := ((hgl.gr hg_71).gr hC).kp hk_75;replace ohb_8 := ((ohb_8.gr hg_71).gr hC).kp hk_75;replace hb_5 := ((hb_5.gr hg_71).gr hC).kp hk_75;replace hst := ((hst.grow hg_71).grow hC).kp hk_75 hs_76;have hC := hC0.bl col_15;replace hb_77 := hb_77.gr hC;refine l_bstoreF (off := 1) (v := (.string ((r_6.2.1.extract (Int.toNat r_6.2.2.1) (Int.toNat (r_6.2.1.size : Int))).extract (Int.toNat 0) (Int.toNat r_68)))) hb_77 Tryz.sizeOf9 rfl rfl (by intro u hu; simp only [Value.cells, List.mem_cons, List.not_mem_nil, or_false] at hu; subst hu; rfl) rfl rfl ?_;intro w_79 hk_80 hs_81 hb_82;replace hb_82 : Box 38 2 col_15 w_79 g_13 #[(.int .i8 1), (.string ((r_6.2.1.extract (Int.toNat r_6.2.2.1) (Int.toNat (r_6.2.1.size : Int))).extract (Int.toNat 0) (Int.toNat r_68))), (.int .i64 r_6.2.2.2.1), (.int .i64 r_6.2.2.2.2)] := hb_82;refine lnil <| xk col_15 <| xnil ?_;replace hgl := (hgl.gr hC).kp hk_80;replace ohb_8 := (ohb_8.gr hC).kp hk_80;replace hb_5 := (hb_5.gr hC).kp hk_80;replace hst := (hst.grow hC).kp hk_80 hs_81;intro w_83 hC;replace hC := hC.bl col_15;refine go ?_;replace hgl := hgl.gr hC;replace ohb_8 := ohb_8.gr hC;replace hb_5 := hb_5.gr hC;replace hb_82 := hb_82.gr hC;replace hst := hst.grow hC;refine wcb hm (fun hb hm => go ?_) fun hb hm => ?_
  ·refine lM (.func (.func 66) #[] #[(.pointer (some ⟨g_13, 0, none⟩))]) <| go ?_;obtain ⟨hb_84, hm⟩ := chk_some hm;refine lV (.string ((r_6.2.1.extract (Int.toNat r_6.2.2.1) (Int.toNat (r_6.2.1.size : Int))).extract (Int.toNat 0) (Int.toNat r_68))) (r_strH Tryz.underlying9 rfl rfl hb_84) ?_;obtain ⟨r_85, hr_86, hm⟩ := bZ hm;refine lc rfl rfl (r_callv2 Tryz.call66 rfl rfl rfl) (c_lex_reader_next_1 col_15 _ 2 (by decide) 20 ((r_6.2.1.extract (Int.toNat r_6.2.2.1) (Int.toNat (r_6.2.1.size : Int))).extract (Int.toNat 0) (Int.toNat r_68)) g_13 (1, (r_6.2.1.extract (Int.toNat r_6.2.2.1) (Int.toNat (r_6.2.1.size : Int))).extract (Int.toNat 0) (Int.toNat r_68), r_6.2.2.2.1, r_6.2.2.2.2) hb_82 r_85 hr_86) ?_;rintro _ w_89 ⟨col_91, rv_87, rfl, hg_90, rh_88⟩;refine ⟨_, rfl, ?_⟩;refine lV (.agg #[(.int .i8 r_85.1.1), (.string r_85.1.2.1), (.int .i64 r_85.1.2.2.1), (.int .i64 r_85.1.2.2.2)]) (r_extract rfl rfl) <| lv (v := rv_87) rfl rfl (r_extract rfl rfl) ?_;replace hb_5 := hb_5.gr hg_90;refine l_bsA hb_5 ?_;intro w_92 hk_93 hs_94 hb_95;refine lv (v := rv_87) rfl rfl (r_assign rfl) <| go ?_;cases hm;replace ohb_8 := (ohb_8.gr hg_90).kp hk_93;replace hst := (hst.grow hg_90).kp hk_93 hs_94;replace rh_88 := rh_88.kp hk_93;exact ⟨rfl, _, res_at rfl rfl Tryz.isAgg38 Tryz.sizeOf38 rfl rfl hb_95.atN rfl rfl, colFL w0.heap.size [qc0] col col_91 (fun n => bif Nat.beq n 440 then qc0 else 0), rv_87, rfl, hst.finL rfl (fun n => bif Nat.beq n 440 then qc0 else 0), hst.finRdL (g := (fun n => bif Nat.beq n 440 then qc0 else 0)) rfl rh_88, hst.finBoxL (g := (fun n => bif Nat.beq n 440 then qc0 else 0)) ohb_8 (by decide) (by decide) rfl⟩
  refine wskip ?_;exact ⟨kf, _, 0, _, 0, 0, 1, _, _, _, _, hm, hst, ohb_8, hb_5, hb_82, hgl, rfl⟩
 obtain ⟨e_96, hj_97, hm⟩ := bZ hm;refine lV (.int .u8 e_96) (r_indexS (s := (r_6.2.1.extract (Int.toNat r_6.2.2.1) (Int.toNat (r_6.2.1.size : Int)))) Tryz.underlying9 rfl rfl hj_97) ?_;obtain ⟨r_98, hr_99, hm⟩ := bZ hm;refine lcA (c_lex_digit (col := col_15) hr_99) ?_;rintro _ w_100 ⟨rfl, hg_101⟩;refine ⟨_, rfl, ?_⟩;replace hg_101 : Grow col_15 w_66 col_15 w_100 := .of_below hg_101;refine go ?_;replace hgl := hgl.gr hg_101;replace ohb_8 := ohb_8.gr hg_101;replace hb_5 := hb_5.gr hg_101;replace hb_22 := hb_22.gr hg_101;replace hst := hst.grow hg_101;refine wcb hm (fun hb hm => go ?_) fun hb hm => go ?_
 ·obtain ⟨r_102, hr_103, hm⟩ := bZ hm;refine lcA (c_lex_number (col := col_15) hr_103) ?_;rintro _ w_104 ⟨rfl, hg_105⟩;refine ⟨_, rfl, ?_⟩;replace hg_105 : Grow col_15 w_100 col_15 w_104 := .of_below hg_105;refine lM (.tuple #[(.int .i64 r_102.1), (.string r_102.2)]) <| lV (.int .i64 r_102.1) (r_extract rfl rfl) <| lV (.string r_102.2) (r_extract rfl rfl) <| go ?_;refine wmix (col := col_15) [(0, 1), (1, 1), (2, 1), (3, 1), (4, 2), (5, 1), (6, 2)] (by kernel_rfl) (by kernel_rfl) <| xu rfl rfl (fun _ => r_mT rfl) ?_;refine xu rfl rfl (fun _ => r_mI rfl) ?_;obtain ⟨hb_106, hm⟩ := chk_some hm;refine xu (v := (.string ((r_6.2.1.extract (Int.toNat r_6.2.2.1) (Int.toNat (r_6.2.1.size : Int))).extract (Int.toNat 0) (Int.toNat r_102.1)))) rfl rfl (fun _ => r_strH Tryz.underlying9 rfl rfl hb_106) ?_;refine xF ⟨_, _, rfl⟩ ?_;refine xe rfl rfl ?_;intro w_107 hC0;have hC := hC0.bl col_15;replace hb_22 := (hb_22.gr hg_105).gr hC;refine l_bstoreF (off := 0) (v := (.int .i8 2)) hb_22 Tryz.sizeOf36 rfl rfl (by intro u hu; simp only [Value.cells, List.mem_cons, List.not_mem_nil, or_false] at hu; subst hu; rfl) rfl rfl ?_;intro w_108 hk_109 hs_110 hb_111;replace hb_111 : Box 38 2 col_15 w_108 g_13 #[(.int .i8 2), (.string (⟨#[]⟩)), (.int .i64 r_6.2.2.2.1), (.int .i64 r_6.2.2.2.2)] := hb_111;refine lnil <| xk col_15 <| xF ⟨_, _, rfl⟩ ?_;refine xe rfl rfl ?_;intro w_112 hC0;replace hgl := ((hgl.gr hg_105).gr hC).kp hk_109;replace ohb_8 := ((ohb_8.gr hg_105).gr hC).kp hk_109;replace hb_5 := ((hb_5.gr hg_105).gr hC).kp hk_109;replace hst := ((hst.grow hg_105).grow hC).kp hk_109 hs_110;have hC := hC0.bl col_15;replace hb_111 := hb_111.gr hC;refine l_bstoreF (off := 1) (v := (.string ((r_6.2.1.extract (Int.toNat r_6.2.2.1) (Int.toNat (r_6.2.1.size : Int))).extract (Int.toNat 0) (Int.toNat r_102.1)))) hb_111 Tryz.sizeOf9 rfl rfl (by intro u hu; simp only [Value.cells, List.mem_cons, List.not_mem_nil, or_false] at hu; subst hu; rfl) rfl rfl ?_;intro w_113 hk_114 hs_115 hb_116;replace hb_116 : Box 38 2 col_15 w_113 g_13 #[(.int .i8 2), (.string ((r_6.2.1.extract (Int.toNat r_6.2.2.1) (Int.toNat (r_6.2.1.size : Int))).extract (Int.toNat 0) (Int.toNat r_102.1))), (.int .i64 r_6.2.2.2.1), (.int .i64 r_6.2.2.2.2)] := hb_116;refine lnil <| xk col_15 <| xnil ?_;replace hgl := (hgl.gr hC).kp hk_114;replace ohb_8 := (ohb_8.gr hC).kp hk_114;replace hb_5 := (hb_5.gr hC).kp hk_114;replace hst := (hst.grow hC).kp hk_114 hs_115;intro w_117 hC;replace hC := hC.bl col_15;refine wseq ?_;replace hgl := hgl.gr hC;replace ohb_8 := ohb_8.gr hC;replace hb_5 := hb_5.gr hC;replace hb_116 := hb_116.gr hC;replace hst := hst.grow hC
  refine Wp.cutK [0, 2, 5, 6, 7, 8, 1000000] (fun f w_130 => ∃ col_131 v_132, m_lex_reader_next_J2 N r_6 r_102 v_132 = some r ∧ St w0 (colL [qc0] col) col_131 w_130 ∧ Box 62 440 col_131 w_130 g0 #[(.string r_6.2.1), (.int .i64 r_6.2.2.1), (.int .i64 r_6.2.2.2.1), (.int .i64 r_6.2.2.2.2)] ∧ Box 38 1 col_131 w_130 g_1 #[(.int .i8 0), (.string (⟨#[]⟩)), (.int .i64 0), (.int .i64 0)] ∧ Box 38 2 col_131 w_130 g_13 #[(.int .i8 2), (.string ((r_6.2.1.extract (Int.toNat r_6.2.2.1) (Int.toNat (r_6.2.1.size : Int))).extract (Int.toNat 0) (Int.toNat r_102.1))), (.int .i64 r_6.2.2.2.1), (.int .i64 r_6.2.2.2.2)] ∧ Gl (.iface 146 (.agg #[.pointer (some ⟨4, 30, none⟩)])) col_131 w_130 ∧ [95].map f = [.bool v_132]) ?_ ?_
  ·intro f w_130 hJ;obtain ⟨col_131, v_132, hm, hst, ohb_8, hb_5, hb_116, hgl, hs⟩ := hJ;rw [m_lex_reader_next_J2.eq_1] at hm;refine .lL [95] hs ?_;refine wcb hm (fun hb hm => go ?_) fun hb hm => ?_
   ·refine lM (.func (.func 66) #[] #[(.pointer (some ⟨g_13, 0, none⟩))]) <| go ?_;obtain ⟨r_133, hr_134, hm⟩ := bZ hm;refine lcA (c_lex_run_v2f36 (col := col_131) hr_134) ?_;rintro _ w_135 ⟨rfl, hg_136⟩;refine ⟨_, rfl, ?_⟩;replace hg_136 : Grow col_131 w_130 col_131 w_135 := .of_below hg_136;refine go ?_;obtain ⟨hb_137, hm⟩ := chk_some hm;refine lV (.string ((r_6.2.1.extract (Int.toNat r_6.2.2.1) (Int.toNat (r_6.2.1.size : Int))).extract (Int.toNat 0) (Int.toNat (IntKind.i64.wrap (r_102.1 + r_133))))) (r_strH Tryz.underlying9 rfl rfl hb_137) ?_;obtain ⟨r_138, hr_139, hm⟩ := bZ hm;replace hb_116 := hb_116.gr hg_136;refine lc rfl rfl (r_callv2 Tryz.call66 rfl rfl rfl) (c_lex_reader_next_1 col_131 _ 2 (by decide) 22 ((r_6.2.1.extract (Int.toNat r_6.2.2.1) (Int.toNat (r_6.2.1.size : Int))).extract (Int.toNat 0) (Int.toNat (IntKind.i64.wrap (r_102.1 + r_133)))) g_13 (2, (r_6.2.1.extract (Int.toNat r_6.2.2.1) (Int.toNat (r_6.2.1.size : Int))).extract (Int.toNat 0) (Int.toNat r_102.1), r_6.2.2.2.1, r_6.2.2.2.2) hb_116 r_138 hr_139) ?_;rintro _ w_142 ⟨col_144, rv_140, rfl, hg_143, rh_141⟩;refine ⟨_, rfl, ?_⟩;refine lV (.agg #[(.int .i8 r_138.1.1), (.string r_138.1.2.1), (.int .i64 r_138.1.2.2.1), (.int .i64 r_138.1.2.2.2)]) (r_extract rfl rfl) <| lv (v := rv_140) rfl rfl (r_extract rfl rfl) ?_;replace hb_5 := (hb_5.gr hg_136).gr hg_143;refine l_bsA hb_5 ?_;intro w_145 hk_146 hs_147 hb_148;refine lv (v := rv_140) rfl rfl (r_assign rfl) <| go ?_;cases hm;replace ohb_8 := ((ohb_8.gr hg_136).gr hg_143).kp hk_146;replace hst := ((hst.grow hg_136).grow hg_143).kp hk_146 hs_147;replace rh_141 := rh_141.kp hk_146;exact ⟨rfl, _, res_at rfl rfl Tryz.isAgg38 Tryz.sizeOf38 rfl rfl hb_148.atN rfl rfl, colFL w0.heap.size [qc0] col col_144 (fun n => bif Nat.beq n 440 then qc0 else 0), rv_140, rfl, hst.finL rfl (fun n => bif Nat.beq n 440 then qc0 else 0), hst.finRdL (g := (fun n => bif Nat.beq n 440 then qc0 else 0)) rfl rh_141, hst.finBoxL (g := (fun n => bif Nat.beq n 440 then qc0 else 0)) ohb_8 (by decide) (by decide) rfl⟩
   refine wskip ?_;exact ⟨kf, _, 0, _, 0, 0, 2, _, _, _, _, hm, hst, ohb_8, hb_5, hb_116, hgl, rfl⟩
  refine go ?_;obtain ⟨r_149, hr_150, hm⟩ := bZ hm;refine lcA (c_lex_large (col := col_15) hr_150) ?_;rintro _ w_151 ⟨rfl, hg_152⟩;refine ⟨_, rfl, ?_⟩;replace hg_152 : Grow col_15 w_117 col_15 w_151 := .of_below hg_152;refine lMB rfl ?_;replace hgl := hgl.gr hg_152;replace ohb_8 := ohb_8.gr hg_152;replace hb_5 := hb_5.gr hg_152;replace hb_116 := hb_116.gr hg_152;replace hst := hst.grow hg_152;refine bcb hm (fun hg_153 hm => go ?_) fun hg_153 hm => go ?_
  ·refine lpU 89 rfl rfl rfl rfl <| lpU 89 rfl rfl rfl rfl <| lpU 89 rfl rfl rfl rfl <| lpU 89 rfl rfl rfl rfl <| go ?_;refine lV (.bool true) (r_pickT (congrArg Value.bool hg_153) rfl) <| lnil ?_;exact ⟨kf, _, _, hm, hst, ohb_8, hb_5, hb_116, hgl, rfl⟩
  refine bcb hm (fun hg_154 hm => go ?_) fun hg_154 hm => go ?_
  ·obtain ⟨e_155, hj_156, hm⟩ := bZ hm;refine lV (.int .u8 e_155) (r_indexS (s := (r_6.2.1.extract (Int.toNat r_6.2.2.1) (Int.toNat (r_6.2.1.size : Int)))) Tryz.underlying9 rfl rfl hj_156) <| go ?_;obtain ⟨r_157, hr_158, hm⟩ := bZ hm;refine lcA (c_lex_letter (col := col_15) hr_158) ?_;rintro _ w_159 ⟨rfl, hg_160⟩;refine ⟨_, rfl, ?_⟩;replace hg_160 : Grow col_15 w_151 col_15 w_159 := .of_below hg_160;refine go ?_;refine lV (.bool r_157) (r_pickT (congrArg Value.bool hg_154) rfl) <| lV (.bool r_157) (r_pickF (congrArg Value.bool hg_153) rfl) <| lnil ?_;replace hgl := hgl.gr hg_160;replace ohb_8 := ohb_8.gr hg_160;replace hb_5 := hb_5.gr hg_160;replace hb_116 := hb_116.gr hg_160;replace hst := hst.grow hg_160;exact ⟨kf, _, _, hm, hst, ohb_8, hb_5, hb_116, hgl, rfl⟩
  refine lV (.bool false) (r_pickF (congrArg Value.bool hg_154) rfl) <| lV (.bool false) (r_pickF (congrArg Value.bool hg_153) rfl) <| lnil ?_;exact ⟨kf, _, _, hm, hst, ohb_8, hb_5, hb_116, hgl, rfl⟩
 obtain ⟨e_161, hj_162, hm⟩ := bZ hm;refine lV (.int .u8 e_161) (r_indexS (s := (r_6.2.1.extract (Int.toNat r_6.2.2.1) (Int.toNat (r_6.2.1.size : Int)))) Tryz.underlying9 rfl rfl hj_162) <| go ?_;refine wcb hm (fun hb hm => go ?_) fun hb hm => go ?_
 ·refine lFa ⟨_, _, rfl⟩ ?_;refine l_bstoreF (off := 0) (v := (.int .i8 3)) hb_22 Tryz.sizeOf36 rfl rfl (by intro u hu; simp only [Value.cells, List.mem_cons, List.not_mem_nil, or_false] at hu; subst hu; rfl) rfl rfl ?_;intro w_163 hk_164 hs_165 hb_166;replace hb_166 : Box 38 2 col_15 w_163 g_13 #[(.int .i8 3), (.string (⟨#[]⟩)), (.int .i64 r_6.2.2.2.1), (.int .i64 r_6.2.2.2.2)] := hb_166;refine go ?_;obtain ⟨r_167, hr_168, hm⟩ := bZ hm;refine lcA (c_lex_meant (col := col_15) hr_168) ?_;rintro _ w_169 ⟨rfl, hg_170⟩;refine ⟨_, rfl, ?_⟩;replace hg_170 : Grow col_15 w_163 col_15 w_169 := .of_below hg_170;refine lM (.tuple #[(.string r_167.1), (.int .i64 r_167.2.1), (.bool r_167.2.2)]) <| lV (.string r_167.1) (r_extract rfl rfl) <| lV (.int .i64 r_167.2.1) (r_extract rfl rfl) <| lV (.bool r_167.2.2) (r_extract rfl rfl) <| lFa ⟨_, _, rfl⟩ ?_;replace hb_166 := hb_166.gr hg_170;refine l_bstoreF (off := 1) (v := (.string r_167.1)) hb_166 Tryz.sizeOf9 rfl rfl (by intro u hu; simp only [Value.cells, List.mem_cons, List.not_mem_nil, or_false] at hu; subst hu; rfl) rfl rfl ?_;intro w_171 hk_172 hs_173 hb_174;replace hb_174 : Box 38 2 col_15 w_171 g_13 #[(.int .i8 3), (.string r_167.1), (.int .i64 r_6.2.2.2.1), (.int .i64 r_6.2.2.2.2)] := hb_174;refine go ?_;replace hgl := ((hgl.kp hk_164).gr hg_170).kp hk_172;replace ohb_8 := ((ohb_8.kp hk_164).gr hg_170).kp hk_172;replace hb_5 := ((hb_5.kp hk_164).gr hg_170).kp hk_172;replace hst := ((hst.kp hk_164 hs_165).grow hg_170).kp hk_172 hs_173;refine wcb hm (fun hb hm => go ?_) fun hb hm => ?_
  ·refine lM (.func (.func 66) #[] #[(.pointer (some ⟨g_13, 0, none⟩))]) <| lMT rfl ?_;obtain ⟨hb_175, hm⟩ := chk_some hm;refine lV (.string ((r_6.2.1.extract (Int.toNat r_6.2.2.1) (Int.toNat (r_6.2.1.size : Int))).extract (Int.toNat 0) (Int.toNat 1))) (r_strH Tryz.underlying9 rfl rfl hb_175) ?_;obtain ⟨r_176, hr_177, hm⟩ := bZ hm;refine lc rfl rfl (r_callv2 Tryz.call66 rfl rfl rfl) (c_lex_reader_next_1 col_15 _ 2 (by decide) 21 ((r_6.2.1.extract (Int.toNat r_6.2.2.1) (Int.toNat (r_6.2.1.size : Int))).extract (Int.toNat 0) (Int.toNat 1)) g_13 (3, r_167.1, r_6.2.2.2.1, r_6.2.2.2.2) hb_174 r_176 hr_177) ?_;rintro _ w_180 ⟨col_182, rv_178, rfl, hg_181, rh_179⟩;refine ⟨_, rfl, ?_⟩;refine lV (.agg #[(.int .i8 r_176.1.1), (.string r_176.1.2.1), (.int .i64 r_176.1.2.2.1), (.int .i64 r_176.1.2.2.2)]) (r_extract rfl rfl) <| lv (v := rv_178) rfl rfl (r_extract rfl rfl) ?_;replace hb_5 := hb_5.gr hg_181;refine l_bsA hb_5 ?_;intro w_183 hk_184 hs_185 hb_186;refine lv (v := rv_178) rfl rfl (r_assign rfl) <| go ?_;cases hm;replace ohb_8 := (ohb_8.gr hg_181).kp hk_184;replace hst := (hst.grow hg_181).kp hk_184 hs_185;replace rh_179 := rh_179.kp hk_184;exact ⟨rfl, _, res_at rfl rfl Tryz.isAgg38 Tryz.sizeOf38 rfl rfl hb_186.atN rfl rfl, colFL w0.heap.size [qc0] col col_182 (fun n => bif Nat.beq n 440 then qc0 else 0), rv_178, rfl, hst.finL rfl (fun n => bif Nat.beq n 440 then qc0 else 0), hst.finRdL (g := (fun n => bif Nat.beq n 440 then qc0 else 0)) rfl rh_179, hst.finBoxL (g := (fun n => bif Nat.beq n 440 then qc0 else 0)) ohb_8 (by decide) (by decide) rfl⟩
  refine wskip ?_;exact ⟨kf, _, 0, _, 0, 0, 3, _, _, _, _, hm, hst, ohb_8, hb_5, hb_174, hgl, rfl⟩
 obtain ⟨e_187, hj_188, hm⟩ := bZ hm;refine lV (.int .u8 e_187) (r_indexS (s := (r_6.2.1.extract (Int.toNat r_6.2.2.1) (Int.toNat (r_6.2.1.size : Int)))) Tryz.underlying9 rfl rfl hj_188) ?_;obtain ⟨r_189, hr_190, hm⟩ := bZ hm;refine lcA (c_strings_IndexByte col_15 _ (⟨#[123, 125, 40, 41, 91, 93, 44, 59, 124, 61, 43, 45, 42, 47]⟩) e_187 r_189 hr_190) ?_;rintro _ w_191 ⟨rfl, hg_192⟩;refine ⟨_, rfl, ?_⟩;replace hg_192 : Grow col_15 w_100 col_15 w_191 := .of_below hg_192;refine go ?_;replace hgl := hgl.gr hg_192;replace ohb_8 := ohb_8.gr hg_192;replace hb_5 := hb_5.gr hg_192;replace hb_22 := hb_22.gr hg_192;replace hst := hst.grow hg_192;refine wcb hm (fun hb hm => ?_) fun hb hm => go ?_
 ·refine wmix (col := col_15) [(0, 1), (1, 1), (2, 1), (3, 2), (4, 1), (5, 2)] (by kernel_rfl) (by kernel_rfl) <| xu rfl rfl (fun _ => r_mT rfl) ?_;obtain ⟨hb_193, hm⟩ := chk_some hm;refine xu (v := (.string ((r_6.2.1.extract (Int.toNat r_6.2.2.1) (Int.toNat (r_6.2.1.size : Int))).extract (Int.toNat 0) (Int.toNat 1)))) rfl rfl (fun _ => r_strH Tryz.underlying9 rfl rfl hb_193) ?_;refine xF ⟨_, _, rfl⟩ ?_;refine xe rfl rfl ?_;intro w_194 hC0;have hC := hC0.bl col_15;replace hb_22 := hb_22.gr hC;refine l_bstoreF (off := 0) (v := (.int .i8 4)) hb_22 Tryz.sizeOf36 rfl rfl (by intro u hu; simp only [Value.cells, List.mem_cons, List.not_mem_nil, or_false] at hu; subst hu; rfl) rfl rfl ?_;intro w_195 hk_196 hs_197 hb_198;replace hb_198 : Box 38 2 col_15 w_195 g_13 #[(.int .i8 4), (.string (⟨#[]⟩)), (.int .i64 r_6.2.2.2.1), (.int .i64 r_6.2.2.2.2)] := hb_198;refine lnil <| xk col_15 <| xF ⟨_, _, rfl⟩ ?_;refine xe rfl rfl ?_;intro w_199 hC0;replace hgl := (hgl.gr hC).kp hk_196;replace ohb_8 := (ohb_8.gr hC).kp hk_196;replace hb_5 := (hb_5.gr hC).kp hk_196;replace hst := (hst.grow hC).kp hk_196 hs_197;have hC := hC0.bl col_15;replace hb_198 := hb_198.gr hC;refine l_bstoreF (off := 1) (v := (.string ((r_6.2.1.extract (Int.toNat r_6.2.2.1) (Int.toNat (r_6.2.1.size : Int))).extract (Int.toNat 0) (Int.toNat 1)))) hb_198 Tryz.sizeOf9 rfl rfl (by intro u hu; simp only [Value.cells, List.mem_cons, List.not_mem_nil, or_false] at hu; subst hu; rfl) rfl rfl ?_;intro w_200 hk_201 hs_202 hb_203;replace hb_203 : Box 38 2 col_15 w_200 g_13 #[(.int .i8 4), (.string ((r_6.2.1.extract (Int.toNat r_6.2.2.1) (Int.toNat (r_6.2.1.size : Int))).extract (Int.toNat 0) (Int.toNat 1))), (.int .i64 r_6.2.2.2.1), (.int .i64 r_6.2.2.2.2)] := hb_203;refine lnil <| xk col_15 <| xnil ?_;replace hgl := (hgl.gr hC).kp hk_201;replace ohb_8 := (ohb_8.gr hC).kp hk_201;replace hb_5 := (hb_5.gr hC).kp hk_201;replace hst := (hst.grow hC).kp hk_201 hs_202;intro w_204 hC;replace hC := hC.bl col_15;replace hgl := hgl.gr hC;replace ohb_8 := ohb_8.gr hC;replace hb_5 := hb_5.gr hC;replace hb_203 := hb_203.gr hC;replace hst := hst.grow hC;exact ⟨kf, _, 0, _, 0, 0, 4, _, _, _, 1, hm, hst, ohb_8, hb_5, hb_203, hgl, rfl⟩
 refine lM (.func (.func 66) #[] #[(.pointer (some ⟨g_13, 0, none⟩))]) <| lMT rfl ?_;obtain ⟨hb_205, hm⟩ := chk_some hm;refine lV (.string ((r_6.2.1.extract (Int.toNat r_6.2.2.1) (Int.toNat (r_6.2.1.size : Int))).extract (Int.toNat 0) (Int.toNat 1))) (r_strH Tryz.underlying9 rfl rfl hb_205) ?_;obtain ⟨r_206, hr_207, hm⟩ := bZ hm;refine lc rfl rfl (r_callv2 Tryz.call66 rfl rfl rfl) (c_lex_reader_next_1 col_15 _ 2 (by decide) 20 ((r_6.2.1.extract (Int.toNat r_6.2.2.1) (Int.toNat (r_6.2.1.size : Int))).extract (Int.toNat 0) (Int.toNat 1)) g_13 (0, ⟨#[]⟩, r_6.2.2.2.1, r_6.2.2.2.2) hb_22 r_206 hr_207) ?_;rintro _ w_210 ⟨col_212, rv_208, rfl, hg_211, rh_209⟩;refine ⟨_, rfl, ?_⟩;refine lV (.agg #[(.int .i8 r_206.1.1), (.string r_206.1.2.1), (.int .i64 r_206.1.2.2.1), (.int .i64 r_206.1.2.2.2)]) (r_extract rfl rfl) <| lv (v := rv_208) rfl rfl (r_extract rfl rfl) ?_;replace hb_5 := hb_5.gr hg_211;refine l_bsA hb_5 ?_;intro w_213 hk_214 hs_215 hb_216;refine lv (v := rv_208) rfl rfl (r_assign rfl) <| go ?_;cases hm;replace ohb_8 := (ohb_8.gr hg_211).kp hk_214;replace hst := (hst.grow hg_211).kp hk_214 hs_215;replace rh_209 := rh_209.kp hk_214;exact ⟨rfl, _, res_at rfl rfl Tryz.isAgg38 Tryz.sizeOf38 rfl rfl hb_216.atN rfl rfl, colFL w0.heap.size [qc0] col col_212 (fun n => bif Nat.beq n 440 then qc0 else 0), rv_208, rfl, hst.finL rfl (fun n => bif Nat.beq n 440 then qc0 else 0), hst.finRdL (g := (fun n => bif Nat.beq n 440 then qc0 else 0)) rfl rh_209, hst.finBoxL (g := (fun n => bif Nat.beq n 440 then qc0 else 0)) ohb_8 (by decide) (by decide) rfl⟩
def m_lex_Each_1_L1 (N : Nat)  : Nat → ByteArray → Int → Int → Int → Option (List ((Int × ByteArray × Int × Int) × (Option (Int × Int × Int × ByteArray))))
  | 0, _, _, _, _ => none
  | n_10 + 1, r_13, r_14, r_15, r_16 => (m_lex_reader_next N (r_13, r_14, r_15, r_16)).bind fun r_17 => (if r_17.2.1.isSome = true then (some []) else (if (decide (r_17.1.1 = 0)) = true then (some []) else ((m_lex_Each_1_L1 N n_10) r_17.2.2.1 r_17.2.2.2.1 r_17.2.2.2.2.1 r_17.2.2.2.2.2))).bind fun r_34 => some (((r_17.1.1, r_17.1.2.1, r_17.1.2.2.1, r_17.1.2.2.2), r_17.2.1) :: r_34)
termination_by structural x => x
def m_lex_Each_1 (N : Nat) (v0_v : ByteArray) : Option (List ((Int × ByteArray × Int × Int) × (Option (Int × Int × Int × ByteArray)))) :=
  m_lex_Each_1_L1 N N v0_v 0 1 1
theorem c_lex_Each_1 (N : Nat) (col : Col) (w0 : World) (g0 : Nat) (v0_v : ByteArray) (hb0 : Box 9 0 col w0 g0 #[(.string v0_v)]) (hgl : Gl (.iface 146 (.agg #[.pointer (some ⟨4, 30, none⟩)])) col w0) (r : List ((Int × ByteArray × Int × Int) × (Option (Int × Int × Int × ByteArray)))) (hm : m_lex_Each_1 N v0_v = some r) :
    Goes Tryz.prog 1 30 [(.pointer (some ⟨g0, 0, none⟩))] (fun (y : (Int × ByteArray × Int × Int) × (Option (Int × Int × Int × ByteArray))) (col : Col) (w : World) (args : List Value) => ∃ (v1 : Value), args = [(.agg #[(.int .i8 y.1.1), (.string y.1.2.1), (.int .i64 y.1.2.2.1), (.int .i64 y.1.2.2.2)]), v1] ∧ Rd (Rep.err 57 26 (Rep.pair (Rep.int .i64) (Rep.pair (Rep.int .i64) (Rep.pair (Rep.int .i64) Rep.str)))) col w [v1] y.2) r col w0 := by
 intro l J X hjs hxs hy hst;refine calls_of0 (m := 26) (args := [.func (.yield l) #[] #[], (.pointer (some ⟨g0, 0, none⟩))]) Tryz.func30 rfl rfl rfl rfl ?_;rw [m_lex_Each_1.eq_1] at hm;refine go ?_;refine lW hb0.at1 <| lV (.agg #[(.string v0_v), (.int .i64 0), (.int .i64 1), (.int .i64 1)]) (r_build (l := [_, _, _, _]) (qs := [(0, 1), (1, 1), (2, 1), (3, 1)]) Tryz.underlying62 Tryz.zeroValue62 ⟨rfl, Tryz.sizeOf9, rfl, Tryz.sizeOf3, rfl, Tryz.sizeOf3, rfl, Tryz.sizeOf3, trivial⟩ rfl) <| l_allocA (col := col) #[(.string (⟨#[]⟩)), (.int .i64 0), (.int .i64 0), (.int .i64 0)] 501 Tryz.zeroValue62 ?_;intro g_1 w_2 col_3 hg_4 hb_5;replace hgl := hgl.gr hg_4;replace hb0 := hb0.gr hg_4;replace hst := hjs _ _ _ _ _ hst hg_4.toP;refine l_bsA hb_5 ?_;intro w_6 hk_7 hs_8 hb_9;replace hgl := hgl.kp hk_7;replace hb0 := hb0.kp hk_7;replace hst := hjs _ _ _ _ _ hst (hk_7.toP hs_8 rfl);refine go ?_;refine wloopK [0, 3, 1000000] (fun n f w_11 => ∃ col_12 r r_13 r_14 r_15 r_16 n_10, n_10 = n ∧ m_lex_Each_1_L1 N n_10 r_13 r_14 r_15 r_16 = some r ∧ J r col_12 w_11 ∧ Box 62 501 col_12 w_11 g_1 #[(.string r_13), (.int .i64 r_14), (.int .i64 r_15), (.int .i64 r_16)] ∧ Gl (.iface 146 (.agg #[.pointer (some ⟨4, 30, none⟩)])) col_12 w_11 ∧ Box 9 0 col_12 w_11 g0 #[(.string v0_v)]) N ⟨_, _, _, 0, 1, 1, _, rfl, hm, hst, hb_9, hgl, hb0⟩ ?_;clear hm; intro n f w_11 hI;obtain ⟨col_12, r, r_13, r_14, r_15, r_16, n_10, hn, hm, hst, hb_9, hgl, hb0⟩ := hI;subst hn
 cases n_10 with
 | zero => rw [m_lex_Each_1_L1.eq_1] at hm; cases hm
 | succ n_10 =>
  rw [m_lex_Each_1_L1.eq_2] at hm;refine go ?_;obtain ⟨r_17, hr_18, hm⟩ := bZ hm;refine lcA (c_lex_reader_next 501 hr_18 rfl hb_9 hgl) ?_;rintro _ w_22 ⟨col_24, rv_19, rfl, hg_23, rh_20, ohb_21⟩;refine ⟨_, rfl, ?_⟩;replace hgl := hgl.kpp hg_23;replace hb0 := hb0.kpp hg_23;replace hst := hjs _ _ _ _ _ hst (hg_23.mono (by first | exact fun _ h => h | exact pCo_p2 rfl | exact pCo_p1 rfl | exact pCo_pS rfl | exact fun _ _ => rfl));refine lM (.tuple #[(.agg #[(.int .i8 r_17.1.1), (.string r_17.1.2.1), (.int .i64 r_17.1.2.2.1), (.int .i64 r_17.1.2.2.2)]), rv_19]) <| lV (.agg #[(.int .i8 r_17.1.1), (.string r_17.1.2.1), (.int .i64 r_17.1.2.2.1), (.int .i64 r_17.1.2.2.2)]) (r_extract rfl rfl) <| lv (v := rv_19) rfl rfl (r_extract rfl rfl) <| l_allocA (col := col_24) #[(.int .i8 0), (.string (⟨#[]⟩)), (.int .i64 0), (.int .i64 0)] 502 Tryz.zeroValue38 ?_;intro g_25 w_26 col_27 hg_28 hb_29;replace hgl := hgl.gr hg_28;replace rh_20 := rh_20.gr hg_28;replace ohb_21 := ohb_21.gr hg_28;replace hb0 := hb0.gr hg_28;replace hst := hjs _ _ _ _ _ hst hg_28.toP;refine l_bsA hb_29 ?_;intro w_30 hk_31 hs_32 hb_33;replace hgl := hgl.kp hk_31;replace rh_20 := rh_20.kp hk_31;replace ohb_21 := ohb_21.kp hk_31;replace hb0 := hb0.kp hk_31;replace hst := hjs _ _ _ _ _ hst (hk_31.toP hs_32 rfl);refine lv (v := rv_19) rfl rfl (r_assign rfl) <| go ?_;refine lM (.func (.yield l) #[] #[]) <| lV _ (r_ldB Tryz.isAgg38 Tryz.sizeOf38 hb_33) <| lv (v := rv_19) rfl rfl (r_move rfl) ?_;obtain ⟨r_34, hc_35m, hc_35⟩ := bZ hm;cases hc_35;have hm := hc_35m;refine ly2 rfl rfl rfl rfl (hy _ _ _ _ [(.agg #[(.int .i8 r_17.1.1), (.string r_17.1.2.1), (.int .i64 r_17.1.2.2.1), (.int .i64 r_17.1.2.2.2)]), rv_19] hst ⟨rv_19, rfl, rh_20⟩) ?_;rintro _ w_36 ⟨col_37, hk_38, ⟨rfl, hJ⟩ | ⟨rfl, hX⟩⟩
  ·refine ⟨_, rfl, ?_⟩;have hst := hJ;refine go ?_;refine lG 17 rfl rfl <| lv (v := rv_19) rfl rfl (r_move rfl) <| lG 17 rfl rfl ?_;replace rh_20 := rh_20.kpp hk_38;refine lV (.bool r_17.2.1.isSome) (r_neqE rh_20 Tryz.underlying30 rfl) <| lV (.bool r_17.2.1.isSome) (r_pickF rfl rfl) <| lMB rfl ?_;replace hgl := hgl.kpp hk_38;replace ohb_21 := ohb_21.kpp hk_38;replace hb0 := hb0.kpp hk_38;replace hb_33 := hb_33.kpp hk_38;refine bcb hm (fun hg_39 hm => go ?_) fun hg_39 hm => go ?_
   ·refine lV (.bool true) (r_pickT (congrArg Value.bool hg_39) rfl) <| lnil <| wcondT rfl <| wret ?_;cases hm;exact ⟨rfl, ⟨_, rfl⟩, _, .inl hst⟩
   refine lFa ⟨_, _, rfl⟩ ?_;refine go ?_;refine lW ((hb_33.atN).nth (q := 0) rfl) <| go ?_;refine lV (.bool (decide (r_17.1.1 = 0))) (r_pickF (congrArg Value.bool hg_39) rfl) <| lnil ?_;refine wcb hm (fun hb hm => ?_) fun hb hm => ?_
   ·refine wret ?_;cases hm;exact ⟨rfl, ⟨_, rfl⟩, _, .inl hst⟩
   refine wskip ?_;exact ⟨n_10, by omega, rfl, ⟨_, _, _, _, _, _, _, rfl, hm, hst, ohb_21, hgl, hb0⟩⟩
  refine ⟨_, rfl, ?_⟩;have hst := hX;refine go ?_;refine lP 17 rfl rfl <| lP 17 rfl rfl <| lV (.bool true) (r_pickT rfl rfl) <| lMB rfl <| lP 21 rfl rfl <| lP 21 rfl rfl <| lP 21 rfl rfl <| lV (.bool true) (r_pickT rfl rfl) <| lnil <| wcondT rfl <| wret ?_;exact ⟨rfl, ⟨_, rfl⟩, _, .inr hst⟩
def m_lex_Each (N : Nat) (p0_text : ByteArray) : Option (List ((Int × ByteArray × Int × Int) × (Option (Int × Int × Int × ByteArray)))) :=
  m_lex_Each_1 N p0_text
theorem c_lex_Each {N : Nat} {col : Col} {w0 : World} {p0_text : ByteArray} {r : (List ((Int × ByteArray × Int × Int) × (Option (Int × Int × Int × ByteArray))))} (hm : m_lex_Each N p0_text = some r) (hgl : Gl (.iface 146 (.agg #[.pointer (some ⟨4, 30, none⟩)])) col w0) :
    Calls Tryz.prog 16 #[(.string p0_text)] w0 (fun e w' => ∃ (col' : Col) (rv1 : Value), e = .returned (rv1) ∧ Grow col w0 col' w' ∧ It Tryz.prog 1 rv1 (fun (y : (Int × ByteArray × Int × Int) × (Option (Int × Int × Int × ByteArray))) (col : Col) (w : World) (args : List Value) => ∃ (v1 : Value), args = [(.agg #[(.int .i8 y.1.1), (.string y.1.2.1), (.int .i64 y.1.2.2.1), (.int .i64 y.1.2.2.2)]), v1] ∧ Rd (Rep.err 57 26 (Rep.pair (Rep.int .i64) (Rep.pair (Rep.int .i64) (Rep.pair (Rep.int .i64) Rep.str)))) col w [v1] y.2) r qz col' w') := by
 refine calls_of1 2 (m := 4) Tryz.func16 rfl rfl rfl rfl rfl ?_;rw [m_lex_Each.eq_1] at hm;have hst := St.start col w0;refine go ?_;refine l_box (col := (col0 col)) (v := (.string p0_text)) 1 rfl rfl ?_;intro g_1 w_2 col_3 hg_4 hb_5;replace hb_5 : Box 9 1 col_3 w_2 g_1 #[(.string p0_text)] := hb_5;refine lv (v := _) rfl rfl (r_assign rfl) <| go ?_;refine lV (.func (.func 30) #[] #[(.pointer (some ⟨g_1, 0, none⟩))]) (r_func1 rfl) <| lA (.func (.func 30) #[] #[(.pointer (some ⟨g_1, 0, none⟩))]) <| go ?_;replace hst := hst.grow hg_4;have hb_5f := hst.finBox (G := (fun n => bif Nat.beq n 1 then 0 else 0)) hb_5 (by decide) (by decide) (show (fun n => bif Nat.beq n 1 then 0 else 0) 1 = 0 from rfl);replace hgl := (hgl.keep (Stay.start col w0)).gr hg_4;have hglf := hst.finGl (g := (fun n => bif Nat.beq n 1 then 0 else 0)) rfl hgl;refine ⟨rfl, colF w0.heap.size col col_3 (fun n => bif Nat.beq n 1 then 0 else 0), _, rfl, hst.fin (fun n => bif Nat.beq n 1 then 0 else 0), 30, [(.pointer (some ⟨g_1, 0, none⟩))], rfl, Tryz.call30, ?_⟩;intro col9 w9 hs9 hk9;replace hb_5f := hb_5f.itk hs9 hk9 rfl;replace hglf := hglf.itk hs9 hk9 rfl;exact c_lex_Each_1 N col9 w9 g_1 p0_text hb_5f hglf r hm
theorem el38_12 : ElemOk Tryz.prog 38 4 40 := ⟨Tryz.t38, _, rfl, rfl, rfl, rfl, rfl⟩
def m_lex_Scan_L1_Xret (v_25 : List (Int × ByteArray × Int × Int)) (v_30 : (Option (Int × Int × Int × ByteArray))) (list_32 : List (Int × ByteArray × Int × Int)) : Option ((List (Int × ByteArray × Int × Int)) × (Option (Int × Int × Int × ByteArray))) :=
  some (v_25, v_30)
def m_lex_Scan_L1  : List ((Int × ByteArray × Int × Int) × (Option (Int × Int × Int × ByteArray))) → (List (Int × ByteArray × Int × Int)) → (Option (Int × Int × Int × ByteArray)) → (List (Int × ByteArray × Int × Int)) → Option ((List (Int × ByteArray × Int × Int)) × (Option (Int × Int × Int × ByteArray)))
  | [], v_25, v_30, list_32 => some (list_32, (none : (Option (Int × Int × Int × ByteArray))))
  | y_36 :: l_37, v_25, v_30, list_32 => if y_36.2.isSome = true then (m_lex_Scan_L1_Xret  ([] : List (Int × ByteArray × Int × Int)) y_36.2 list_32) else (chk ((list_32.length + [(y_36.1.1, y_36.1.2.1, y_36.1.2.2.1, y_36.1.2.2.2)].length) * 40 ≤ 140737488355328 ∧ list_32.length + [(y_36.1.1, y_36.1.2.1, y_36.1.2.2.1, y_36.1.2.2.2)].length ≤ maxLen) ((m_lex_Scan_L1 l_37) v_25 v_30 (list_32 ++ [(y_36.1.1, y_36.1.2.1, y_36.1.2.2.1, y_36.1.2.2.2)])))
termination_by structural x => x
def m_lex_Scan (N : Nat) (p0_text : ByteArray) : Option ((List (Int × ByteArray × Int × Int)) × (Option (Int × Int × Int × ByteArray))) :=
  (m_lex_Each N p0_text).bind fun r_16 => m_lex_Scan_L1 r_16 ([] : List (Int × ByteArray × Int × Int)) (none : (Option (Int × Int × Int × ByteArray))) ([] : List (Int × ByteArray × Int × Int))
theorem c_lex_Scan {N : Nat} {col : Col} {w0 : World} {p0_text : ByteArray} {r : ((List (Int × ByteArray × Int × Int)) × (Option (Int × Int × Int × ByteArray)))} (c1 : Nat) (hm : m_lex_Scan N p0_text = some r) (hgl : Gl (.iface 146 (.agg #[.pointer (some ⟨4, 30, none⟩)])) col w0) :
    Calls Tryz.prog 12 #[(.string p0_text)] w0 (fun e w' => ∃ (col' : Col) (ra1 : Option Addr) (rc2 : Nat) (rv4 : Value), e = .returned (.tuple #[(.slice ra1 r.1.length rc2), rv4]) ∧ Grow col w0 col' w' ∧ Own (Rep.pair (Rep.int .i8) (Rep.pair Rep.str (Rep.pair (Rep.int .i64) (Rep.int .i64)))) 38 c1 col' w' ra1 rc2 r.1 ∧ Rd (Rep.err 57 26 (Rep.pair (Rep.int .i64) (Rep.pair (Rep.int .i64) (Rep.pair (Rep.int .i64) Rep.str)))) col' w' [rv4] r.2) := by
 refine calls_ofMR (m := 19) (args := [(.string p0_text)]) Tryz.func12 rfl rfl rfl ?_;rw [m_lex_Scan.eq_1] at hm;have hst := St.start col w0;replace hgl := hgl.keep (Stay.start col w0);have hmk : Marks 499 (col0 col) w0 [] := .nil;refine go ?_;refine l_alloc (col := (col0 col)) (v := (.slice none (([] : List (Int × ByteArray × Int × Int)).length) 0)) 1 rfl Tryz.zeroValue23 ?_;intro g_1 w_2 col_3 hg_4 hb_5;replace hb_5 : Box 23 1 col_3 w_2 g_1 #[(.slice none (([] : List (Int × ByteArray × Int × Int)).length) 0)] := hb_5;refine l_alloc (col := col_3) (v := .nilIface) 2 rfl Tryz.zeroValue30 ?_;intro g_6 w_7 col_8 hg_9 hb_10;replace hb_10 : Box 30 2 col_8 w_7 g_6 #[.nilIface] := hb_10;refine go ?_;refine l_alloc (col := col_8) (v := (.slice none (([] : List (Int × ByteArray × Int × Int)).length) 0)) 3 rfl Tryz.zeroValue23 ?_;intro g_11 w_12 col_13 hg_14 hb_15;replace hb_15 : Box 23 3 col_13 w_12 g_11 #[(.slice none (([] : List (Int × ByteArray × Int × Int)).length) 0)] := hb_15;refine go ?_;obtain ⟨r_16, hr_17, hm⟩ := bZ hm;replace hgl := ((hgl.gr hg_4).gr hg_9).gr hg_14;refine lcA (c_lex_Each hr_17 hgl) ?_;rintro _ w_20 ⟨col_22, rv_18, rfl, hg_21, rh_19⟩;refine ⟨_, rfl, go ?_⟩;replace hmk := (((hmk.gr hg_4).gr hg_9).gr hg_14).gr hg_21;replace hst := (((hst.grow hg_4).grow hg_9).grow hg_14).grow hg_21;replace hb_5 := ((hb_5.gr hg_9).gr hg_14).gr hg_21;replace hb_10 := (hb_10.gr hg_14).gr hg_21;replace hgl := hgl.gr hg_21;replace hb_15 := hb_15.gr hg_21
 refine wrange (psl := [9, 10]) (arr := (fun (y : (Int × ByteArray × Int × Int) × (Option (Int × Int × Int × ByteArray))) (col : Col) (w : World) (args : List Value) => ∃ (v1 : Value), args = [(.agg #[(.int .i8 y.1.1), (.string y.1.2.1), (.int .i64 y.1.2.2.1), (.int .i64 y.1.2.2.2)]), v1] ∧ Rd (Rep.err 57 26 (Rep.pair (Rep.int .i64) (Rep.pair (Rep.int .i64) (Rep.pair (Rep.int .i64) Rep.str)))) col w [v1] y.2)) (ys := r_16) (col := col_22) 498 rfl rh_19 rfl hmk rfl rfl (by rintro _ _ _ _ ⟨_, rfl, _⟩; rfl) (fun ys_ col_24 w_23 => ∃ (a_26 : Option Addr) (cap_27 : Nat) (v_25 : List (Int × ByteArray × Int × Int)) (v_29 : Value) (v_30 : (Option (Int × Int × Int × ByteArray))) (a_33 : Option Addr) (cap_34 : Nat) (list_32 : List (Int × ByteArray × Int × Int)), m_lex_Scan_L1 ys_ v_25 v_30 list_32 = some r ∧ St w0 (col0 col) col_24 w_23 ∧ Own (Rep.pair (Rep.int .i8) (Rep.pair Rep.str (Rep.pair (Rep.int .i64) (Rep.int .i64)))) 38 4 col_24 w_23 a_26 cap_27 v_25 ∧ Box 23 1 col_24 w_23 g_1 #[(.slice a_26 v_25.length cap_27)] ∧ Rd (Rep.err 57 26 (Rep.pair (Rep.int .i64) (Rep.pair (Rep.int .i64) (Rep.pair (Rep.int .i64) Rep.str)))) col_24 w_23 [v_29] v_30 ∧ Box 30 2 col_24 w_23 g_6 #[v_29] ∧ Own (Rep.pair (Rep.int .i8) (Rep.pair Rep.str (Rep.pair (Rep.int .i64) (Rep.int .i64)))) 38 5 col_24 w_23 a_33 cap_34 list_32 ∧ Box 23 3 col_24 w_23 g_11 #[(.slice a_33 list_32.length cap_34)] ∧ Gl (.iface 146 (.agg #[.pointer (some ⟨4, 30, none⟩)])) col_24 w_23) (fun c_ col_24 w_23 => (c_ = .ret ∧ ∃ (a_26 : Option Addr) (cap_27 : Nat) (v_25 : List (Int × ByteArray × Int × Int)) (v_29 : Value) (v_30 : (Option (Int × Int × Int × ByteArray))) (a_33 : Option Addr) (cap_34 : Nat) (list_32 : List (Int × ByteArray × Int × Int)), m_lex_Scan_L1_Xret  v_25 v_30 list_32 = some r ∧ St w0 (col0 col) col_24 w_23 ∧ Own (Rep.pair (Rep.int .i8) (Rep.pair Rep.str (Rep.pair (Rep.int .i64) (Rep.int .i64)))) 38 4 col_24 w_23 a_26 cap_27 v_25 ∧ Box 23 1 col_24 w_23 g_1 #[(.slice a_26 v_25.length cap_27)] ∧ Rd (Rep.err 57 26 (Rep.pair (Rep.int .i64) (Rep.pair (Rep.int .i64) (Rep.pair (Rep.int .i64) Rep.str)))) col_24 w_23 [v_29] v_30 ∧ Box 30 2 col_24 w_23 g_6 #[v_29] ∧ Own (Rep.pair (Rep.int .i8) (Rep.pair Rep.str (Rep.pair (Rep.int .i64) (Rep.int .i64)))) 38 5 col_24 w_23 a_33 cap_34 list_32 ∧ Box 23 3 col_24 w_23 g_11 #[(.slice a_33 list_32.length cap_34)] ∧ Gl (.iface 146 (.agg #[.pointer (some ⟨4, 30, none⟩)])) col_24 w_23)) ?_ ?_ ⟨none, 0, ([] : List (Int × ByteArray × Int × Int)), .nilIface, (none : (Option (Int × Int × Int × ByteArray))), none, 0, ([] : List (Int × ByteArray × Int × Int)), hm, hst, Own.nil, hb_5, rd_nilerr, hb_10, Own.nil, hb_15, hgl⟩ ?_ ?_ ?_
 ·intro ys_ col_24 w_23 col2_ w2_ hJ hk;obtain ⟨a_26, cap_27, v_25, v_29, v_30, a_33, cap_34, list_32, hm, hst, h_28, hb_5, h_31, hb_10, h_35, hb_15, hgl⟩ := hJ;exact ⟨a_26, cap_27, v_25, v_29, v_30, a_33, cap_34, list_32, hm, hst.kpp hk rfl rfl, h_28.kpp hk rfl rfl, hb_5.kpp hk rfl, h_31.kpp hk rfl, hb_10.kpp hk rfl, h_35.kpp hk rfl rfl, hb_15.kpp hk rfl, hgl.kpp hk rfl⟩
 ·intro c_ col_24 w_23 col2_ w2_ hX hk;obtain ⟨rfl, hX⟩ := hX;obtain ⟨a_26, cap_27, v_25, v_29, v_30, a_33, cap_34, list_32, hm, hst, h_28, hb_5, h_31, hb_10, h_35, hb_15, hgl⟩ := hX;exact ⟨rfl, ⟨a_26, cap_27, v_25, v_29, v_30, a_33, cap_34, list_32, hm, hst.kpp hk rfl rfl, h_28.kpp hk rfl rfl, hb_5.kpp hk rfl, h_31.kpp hk rfl, hb_10.kpp hk rfl, h_35.kpp hk rfl rfl, hb_15.kpp hk rfl, hgl.kpp hk rfl⟩⟩
 ·intro l_50 rc_51 ds_52 y_36 l_37 col_24 w_23 args hJ hrec hmk harr;obtain ⟨a_26, cap_27, v_25, v_29, v_30, a_33, cap_34, list_32, hm, hst, h_28, hb_5, h_31, hb_10, h_35, hb_15, hgl⟩ := hJ;rw [m_lex_Scan_L1.eq_2] at hm;have hki := KeepP.refl (pC 1) col_24 w_23;obtain ⟨v_53, rfl, h_54⟩ := harr;refine go ?_;refine l_allocA (col := col_24) #[(.int .i8 0), (.string (⟨#[]⟩)), (.int .i64 0), (.int .i64 0)] 6 Tryz.zeroValue38 ?_;intro g_59 w_60 col_61 hg_62 hb_63;refine l_bsA hb_63 ?_;intro w_64 hk_65 hs_66 hb_67;refine go ?_;refine lv (v := v_53) rfl rfl (r_assign rfl) <| lnil ?_;replace hrec := (hrec.gr hg_62).kp hk_65;refine ⟨_, hrec, ?_⟩;intro w_68 rc_69 hk_70 hs_71 hrec2;have hrec := hrec2;refine go ?_;refine lv (v := v_53) rfl rfl (r_move rfl) ?_;replace h_54 := ((h_54.gr hg_62).kp hk_65).kp hk_70;refine lV (.bool y_36.2.isSome) (r_neqE h_54 Tryz.underlying30 rfl) <| lnil ?_;replace h_28 := ((h_28.gr hg_62).kp hk_65).kp hk_70;replace h_31 := ((h_31.gr hg_62).kp hk_65).kp hk_70;replace h_35 := ((h_35.gr hg_62).kp hk_65).kp hk_70;replace hgl := ((hgl.gr hg_62).kp hk_65).kp hk_70;replace hb_5 := ((hb_5.gr hg_62).kp hk_65).kp hk_70;replace hb_10 := ((hb_10.gr hg_62).kp hk_65).kp hk_70;replace hb_15 := ((hb_15.gr hg_62).kp hk_65).kp hk_70;replace hmk := ((hmk.gr hg_62).kp hk_65).kp hk_70;replace hki := ((hki.gr hg_62).kp hk_65 hs_66 rfl).kp hk_70 hs_71 rfl;replace hst := ((hst.grow hg_62).kp hk_65 hs_66).kp hk_70 hs_71;replace hb_67 := hb_67.kp hk_70;refine wcb hm (fun hb hm => go ?_) fun hb hm => go ?_
  ·refine lv (v := v_53) rfl rfl (r_move rfl) <| l_bstore (v := (.slice none (([] : List (Int × ByteArray × Int × Int)).length) 0)) hb_5 Tryz.sizeOf23 rfl rfl (by intro u hu; simp only [Value.cells, List.mem_cons, List.not_mem_nil, or_false] at hu; subst hu; rfl) rfl rfl ?_;intro w_72 hk_73 hs_74 hb_75;replace hb_75 : Box 23 1 col_61 w_72 g_1 #[(.slice none (([] : List (Int × ByteArray × Int × Int)).length) 0)] := hb_75;replace h_54 := h_54.kp hk_73;replace hb_10 := hb_10.kp hk_73;refine l_bstore (v := v_53) hb_10 Tryz.sizeOf30 rfl (one_sz h_54.one) (one_oc h_54.one) rfl rfl ?_;intro w_76 hk_77 hs_78 hb_79;rw [h_54.one.1] at hb_79;replace hb_79 : Box 30 2 col_61 w_76 g_6 #[v_53] := hb_79;refine go ?_;replace h_35 := (h_35.kp hk_73).kp hk_77;replace hgl := (hgl.kp hk_73).kp hk_77;replace hb_15 := (hb_15.kp hk_73).kp hk_77;replace hrec := (hrec.kp hk_73).kp hk_77;replace hmk := (hmk.kp hk_73).kp hk_77;replace hki := (hki.kp hk_73 hs_74 rfl).kp hk_77 hs_78 rfl;replace hst := (hst.kp hk_73 hs_74).kp hk_77 hs_78;replace h_54 := h_54.kp hk_77;replace hb_75 := hb_75.kp hk_77;exact ⟨_, hki, ⟨rfl, ⟨none, 0, ([] : List (Int × ByteArray × Int × Int)), v_53, y_36.2, a_33, cap_34, list_32, hm, hst, Own.nil, hb_75, h_54, hb_79, h_35, hb_15, hgl⟩⟩, hrec, hmk⟩
  refine lW hb_15.at1 <| lV _ (r_ldB Tryz.isAgg38 Tryz.sizeOf38 hb_67) <| l_litA (col := col_61) (r := (Rep.pair (Rep.int .i8) (Rep.pair Rep.str (Rep.pair (Rep.int .i64) (Rep.int .i64))))) (xs := [(y_36.1.1, y_36.1.2.1, y_36.1.2.2.1, y_36.1.2.2.2)]) [(.agg #[(.int .i8 y_36.1.1), (.string y_36.1.2.1), (.int .i64 y_36.1.2.2.1), (.int .i64 y_36.1.2.2.2)])] 7 (RowsH.ofF (Rows.consF (r := (Rep.pair (Rep.int .i8) (Rep.pair Rep.str (Rep.pair (Rep.int .i64) (Rep.int .i64))))) (x := (y_36.1.1, y_36.1.2.1, y_36.1.2.2.1, y_36.1.2.2.2)) (cs := [(.int .i8 y_36.1.1), (.string y_36.1.2.1), (.int .i64 y_36.1.2.2.1), (.int .i64 y_36.1.2.2.2)]) (rd_pairI (rd_int .i8 y_36.1.1) (rd_pairI (rd_str y_36.1.2.1) (rd_pairI (rd_int .i64 y_36.1.2.2.1) (rd_int .i64 y_36.1.2.2.2)))) Rows.nil0)) ?_;intro a_80 w_81 col_82 hg_83 h_84;obtain ⟨hb_85, hm⟩ := chk_some hm;replace h_35 := h_35.gr hg_83;refine l_ext (col := col_82) (w := w_81) (r := (Rep.pair (Rep.int .i8) (Rep.pair Rep.str (Rep.pair (Rep.int .i64) (Rep.int .i64))))) (c := 5) (c2 := 5) (h_35.ex) (h_84.srcN (NB.pair (NB.int (k := .i8)) (NB.pair NB.str (NB.pair (NB.int (k := .i64)) (NB.int (k := .i64)))))) rfl Tryz.underlying23 el38_12 rfl rfl rfl hb_85.1 hb_85.2 (by decide) ?_;intro a_86 cap_87 w_88 col_89 hk_90 h_91;replace h_28 := (h_28.gr hg_83).kpp hk_90;replace h_31 := (h_31.gr hg_83).kpp hk_90;replace hgl := (hgl.gr hg_83).kpp hk_90;replace hb_5 := (hb_5.gr hg_83).kpp hk_90;replace hb_10 := (hb_10.gr hg_83).kpp hk_90;replace hb_15 := (hb_15.gr hg_83).kpp hk_90;replace hrec := (hrec.gr hg_83).kpp hk_90;replace hmk := (hmk.gr hg_83).kpp hk_90;replace hki := hki.gr hg_83;replace hki := hki.trans (hk_90.mono (by first | exact pCo_p2 rfl | exact pCo_p1 rfl | exact pCo_pS rfl | exact fun _ => pC_21 | exact fun _ h => h | exact fun _ _ => rfl));refine l_bstore (v := (.slice a_86 ((list_32 ++ [(y_36.1.1, y_36.1.2.1, y_36.1.2.2.1, y_36.1.2.2.2)]).length) cap_87)) hb_15 Tryz.sizeOf23 rfl rfl (by intro u hu; simp only [Value.cells, List.mem_cons, List.not_mem_nil, or_false] at hu; subst hu; rfl) rfl rfl ?_;intro w_92 hk_93 hs_94 hb_95;replace hb_95 : Box 23 3 col_89 w_92 g_11 #[(.slice a_86 ((list_32 ++ [(y_36.1.1, y_36.1.2.1, y_36.1.2.2.1, y_36.1.2.2.2)]).length) cap_87)] := hb_95;replace h_91 := h_91.kp hk_93;have h_96 := h_91.new;refine lnil ?_;replace hst := ((hst.grow hg_83).kpp hk_90).kp hk_93 hs_94;replace h_28 := h_28.kp hk_93;replace h_31 := h_31.kp hk_93;replace hgl := hgl.kp hk_93;replace hb_5 := hb_5.kp hk_93;replace hb_10 := hb_10.kp hk_93;replace hrec := hrec.kp hk_93;replace hmk := hmk.kp hk_93;replace hki := hki.kp hk_93 hs_94 rfl;exact ⟨_, hki, ⟨a_26, cap_27, v_25, v_29, v_30, a_86, cap_87, (list_32 ++ [(y_36.1.1, y_36.1.2.1, y_36.1.2.2.1, y_36.1.2.2.2)]), hm, hst, h_28, hb_5, h_31, hb_10, h_96, hb_95, hgl⟩, hrec, hmk⟩
 ·intro D_38 col_24 w_23 hJ hmk;obtain ⟨a_26, cap_27, v_25, v_29, v_30, a_33, cap_34, list_32, hm, hst, h_28, hb_5, h_31, hb_10, h_35, hb_15, hgl⟩ := hJ;rw [m_lex_Scan_L1.eq_1] at hm;refine go ?_;refine lW hb_15.at1 <| l_bstore (v := (.slice a_33 list_32.length cap_34)) hb_5 Tryz.sizeOf23 rfl rfl (by intro u hu; simp only [Value.cells, List.mem_cons, List.not_mem_nil, or_false] at hu; subst hu; rfl) rfl rfl ?_;intro w_39 hk_40 hs_41 hb_42;replace hb_42 : Box 23 1 col_24 w_39 g_1 #[(.slice a_33 list_32.length cap_34)] := hb_42;replace hb_10 := hb_10.kp hk_40;refine l_bstore (v := .nilIface) hb_10 Tryz.sizeOf30 rfl rfl (by intro u hu; simp only [Value.cells, List.mem_cons, List.not_mem_nil, or_false] at hu; subst hu; rfl) rfl rfl ?_;intro w_43 hk_44 hs_45 hb_46;replace hb_46 : Box 30 2 col_24 w_43 g_6 #[.nilIface] := hb_46;refine go ?_;cases hm;replace hmk := (hmk.kp hk_40).kp hk_44;refine ⟨_, (D_38 :: []), rfl, hmk, ?_⟩;intro w_47 hk_48 hs_49;replace h_35 := ((h_35.kp hk_40).kp hk_44).kp hk_48;replace hst := ((hst.kp hk_40 hs_41).kp hk_44 hs_45).kp hk_48 hs_49;replace hb_42 := (hb_42.kp hk_44).kp hk_48;replace hb_46 := hb_46.kp hk_48;exact ⟨_, res_cc rfl rfl Tryz.isAgg23 rfl hb_42.at1 rfl Tryz.isAgg30 rfl hb_46.at1, colF w0.heap.size col col_24 (fun n => bif Nat.beq n 5 then c1 else 0), a_33, cap_34, .nilIface, rfl, hst.fin (fun n => bif Nat.beq n 5 then c1 else 0), hst.finOwn (g := (fun n => bif Nat.beq n 5 then c1 else 0)) rfl h_35 (by decide) (by decide) rfl, rd_nilerr⟩
 intro c_ D_55 col_24 w_23 hX hmk;obtain ⟨rfl, hX⟩ := hX;obtain ⟨a_26, cap_27, v_25, v_29, v_30, a_33, cap_34, list_32, hm, hst, h_28, hb_5, h_31, hb_10, h_35, hb_15, hgl⟩ := hX;rw [m_lex_Scan_L1_Xret.eq_1] at hm;refine wret ?_;cases hm;refine ⟨_, (D_55 :: []), rfl, hmk, ?_⟩;intro w_56 hk_57 hs_58;replace h_28 := h_28.kp hk_57;replace h_31 := h_31.kp hk_57;replace hb_5 := hb_5.kp hk_57;replace hb_10 := hb_10.kp hk_57;replace hst := hst.kp hk_57 hs_58;exact ⟨_, res_cc rfl rfl Tryz.isAgg23 rfl hb_5.at1 rfl Tryz.isAgg30 rfl hb_10.at1, colF w0.heap.size col col_24 (fun n => bif Nat.beq n 4 then c1 else 0), a_26, cap_27, v_29, rfl, hst.fin (fun n => bif Nat.beq n 4 then c1 else 0), hst.finOwn (g := (fun n => bif Nat.beq n 4 then c1 else 0)) rfl h_28 (by decide) (by decide) rfl, hst.finRd (g := (fun n => bif Nat.beq n 4 then c1 else 0)) rfl h_31⟩
def m_r06_blank_J1 (v_9 : Bool) : Option Bool :=
  some v_9
def m_r06_blank (p0_c : Int) : Option Bool :=
  if (decide (p0_c = 32)) = true then (m_r06_blank_J1 true) else (if (decide (p0_c = 9)) = true then (m_r06_blank_J1 true) else (if (decide (p0_c = 10)) = true then (m_r06_blank_J1 true) else (m_r06_blank_J1 (decide (p0_c = 13)))))
def m_r06_at_J1 (p0_s : ByteArray) (p1_i : Int) (v_5 : Bool) : Option Int :=
  if v_5 = true then (some 0) else ((bat? p0_s p1_i).bind fun e_6 => some e_6)
def m_r06_at (p0_s : ByteArray) (p1_i : Int) : Option Int :=
  if (decide (p1_i < 0)) = true then (m_r06_at_J1 p0_s p1_i true) else (m_r06_at_J1 p0_s p1_i (decide ((p0_s.size : Int) ≤ p1_i)))
def m_r06_skipped_J2 (i_12 : Int) (kk_L1 : (Int → Option Int)) : Option Int :=
  kk_L1 (IntKind.i64.wrap (i_12 + 1))
def m_r06_skipped_J4 (i_12 : Int) (kk_L1 : (Int → Option Int)) (v_39 : Bool) : Option Int :=
  if v_39 = true then (some (IntKind.i64.wrap (i_12 + 2))) else (m_r06_skipped_J2 i_12 kk_L1)
def m_r06_skipped_J3 (p0_s : ByteArray) (i_12 : Int) (kk_L1 : (Int → Option Int)) : Option Int :=
  (bat? p0_s 1).bind fun e_40 => if (decide (e_40 = 42)) = true then ((bat? p0_s i_12).bind fun e_43 => if (decide (e_43 = 42)) = true then ((m_r06_at p0_s (IntKind.i64.wrap (i_12 + 1))).bind fun r_46 => m_r06_skipped_J4 i_12 kk_L1 (decide (r_46 = 47))) else (m_r06_skipped_J4 i_12 kk_L1 false)) else (m_r06_skipped_J4 i_12 kk_L1 false)
def m_r06_skipped_J5 (p0_s : ByteArray) (i_12 : Int) (kk_L1 : (Int → Option Int)) (v_62 : Bool) : Option Int :=
  if v_62 = true then (some i_12) else (m_r06_skipped_J3 p0_s i_12 kk_L1)
def m_r06_skipped_L1 (N : Nat) (p0_s : ByteArray) : Nat → Int → Option Int
  | 0, _ => none
  | n_9 + 1, i_12 => if (decide (i_12 < (p0_s.size : Int))) = true then ((bat? p0_s 1).bind fun e_63 => if (decide (e_63 = 47)) = true then ((bat? p0_s i_12).bind fun e_66 => m_r06_skipped_J5 p0_s i_12 (m_r06_skipped_L1 N p0_s n_9) (decide (e_66 = 10))) else (m_r06_skipped_J5 p0_s i_12 (m_r06_skipped_L1 N p0_s n_9) false)) else ((bat? p0_s 1).bind fun e_68 => if (decide (e_68 = 47)) = true then (some (p0_s.size : Int)) else (some (-1)))
termination_by structural x => x
def m_r06_skipped_J1 (N : Nat) (p0_s : ByteArray) : Option Int :=
  m_r06_skipped_L1 N p0_s N 2
def m_r06_skipped_J6 (N : Nat) (p0_s : ByteArray) (v_96 : Bool) : Option Int :=
  if v_96 = true then (some 0) else (m_r06_skipped_J1 N p0_s)
def m_r06_skipped (N : Nat) (p0_s : ByteArray) : Option Int :=
  (bat? p0_s 0).bind fun e_1 => (m_r06_blank e_1).bind fun r_3 => if r_3 = true then (some 1) else ((bat? p0_s 0).bind fun e_97 => if (!decide (e_97 = 47)) = true then (m_r06_skipped_J6 N p0_s true) else ((m_r06_at p0_s 1).bind fun r_100 => if (!decide (r_100 = 47)) = true then ((m_r06_at p0_s 1).bind fun r_105 => m_r06_skipped_J6 N p0_s (!decide (r_105 = 42))) else (m_r06_skipped_J6 N p0_s false)))
def m_r06_Letter_J1 (v_15 : Bool) : Option Bool :=
  some v_15
def m_r06_Letter (p0_c : Int) : Option Bool :=
  if (decide (65 ≤ p0_c)) = true then (if (decide (p0_c ≤ 90)) = true then (m_r06_Letter_J1 true) else (if (decide (97 ≤ p0_c)) = true then (if (decide (p0_c ≤ 122)) = true then (m_r06_Letter_J1 true) else (m_r06_Letter_J1 (decide (p0_c = 95)))) else (m_r06_Letter_J1 (decide (p0_c = 95))))) else (if (decide (97 ≤ p0_c)) = true then (if (decide (p0_c ≤ 122)) = true then (m_r06_Letter_J1 true) else (m_r06_Letter_J1 (decide (p0_c = 95)))) else (m_r06_Letter_J1 (decide (p0_c = 95))))
def m_r06_Digit_J1 (v_5 : Bool) : Option Bool :=
  some v_5
def m_r06_Digit (p0_c : Int) : Option Bool :=
  if (decide (48 ≤ p0_c)) = true then (m_r06_Digit_J1 (decide (p0_c ≤ 57))) else (m_r06_Digit_J1 false)
def m_r06_word_J1 (n_4 : Int) (kk_L1 : (Int → Option Int)) : Option Int :=
  kk_L1 (IntKind.i64.wrap (n_4 + 1))
def m_r06_word_J2 (n_4 : Int) (kk_L1 : (Int → Option Int)) (v_23 : Bool) : Option Int :=
  if v_23 = true then (some n_4) else (m_r06_word_J1 n_4 kk_L1)
def m_r06_word_L1 (N : Nat) (p0_s : ByteArray) (p1_i : Int) : Nat → Int → Option Int
  | 0, _ => none
  | n_1 + 1, n_4 => if (decide ((IntKind.i64.wrap (p1_i + n_4)) < (p0_s.size : Int))) = true then ((bat? p0_s (IntKind.i64.wrap (p1_i + n_4))).bind fun e_5 => (m_r06_Letter e_5).bind fun r_7 => (bat? p0_s (IntKind.i64.wrap (p1_i + n_4))).bind fun e_11 => (m_r06_Digit e_11).bind fun r_13 => if (!r_7) = true then (m_r06_word_J2 n_4 (m_r06_word_L1 N p0_s p1_i n_1) (!r_13)) else (m_r06_word_J2 n_4 (m_r06_word_L1 N p0_s p1_i n_1) false)) else (some n_4)
termination_by structural x => x
def m_r06_word (N : Nat) (p0_s : ByteArray) (p1_i : Int) : Option Int :=
  m_r06_word_L1 N p0_s p1_i N 0
def m_r06_digits_L1 (N : Nat) (p0_s : ByteArray) (p1_i : Int) : Nat → Int → Option Int
  | 0, _ => none
  | n_1 + 1, n_4 => if (decide ((IntKind.i64.wrap (p1_i + n_4)) < (p0_s.size : Int))) = true then ((bat? p0_s (IntKind.i64.wrap (p1_i + n_4))).bind fun e_5 => (m_r06_Digit e_5).bind fun r_7 => if (!r_7) = true then (some n_4) else ((m_r06_digits_L1 N p0_s p1_i n_1) (IntKind.i64.wrap (n_4 + 1)))) else (some n_4)
termination_by structural x => x
def m_r06_digits (N : Nat) (p0_s : ByteArray) (p1_i : Int) : Option Int :=
  m_r06_digits_L1 N p0_s p1_i N 0
def m_r06_large_L1 (N : Nat) (p0_s : ByteArray) : Nat → Int → Int → Option Bool
  | 0, _, _ => none
  | n_1 + 1, v_4, i_5 => if (decide (i_5 < (p0_s.size : Int))) = true then ((bat? p0_s i_5).bind fun e_6 => if (decide (1000 < (IntKind.i64.wrap ((IntKind.i64.wrap (10 * v_4)) + (IntKind.i64.wrap (IntKind.u8.wrap (e_6 - 48))))))) = true then (some true) else ((m_r06_large_L1 N p0_s n_1) (IntKind.i64.wrap ((IntKind.i64.wrap (10 * v_4)) + (IntKind.i64.wrap (IntKind.u8.wrap (e_6 - 48))))) (IntKind.i64.wrap (i_5 + 1)))) else (some false)
termination_by structural x => x
def m_r06_large (N : Nat) (p0_s : ByteArray) : Option Bool :=
  m_r06_large_L1 N p0_s N 0 0
def m_r06_number_J2 (n_7 : Int) : Option (Int × Bool) :=
  some (n_7, false)
def m_r06_number_J4 (N : Nat) (p0_s : ByteArray) (n_7 : Int) (k_33 : Int) : Option (Int × Bool) :=
  (m_r06_digits N p0_s k_33).bind fun r_34 => if (decide (0 < r_34)) = true then (chk ((0 : Int) ≤ k_33 ∧ k_33 ≤ (IntKind.i64.wrap (k_33 + r_34)) ∧ (IntKind.i64.wrap (k_33 + r_34)) ≤ (p0_s.size : Int)) ((m_r06_large N (p0_s.extract (Int.toNat k_33) (Int.toNat (IntKind.i64.wrap (k_33 + r_34))))).bind fun r_39 => some (IntKind.i64.wrap (k_33 + r_34), r_39))) else (m_r06_number_J2 n_7)
def m_r06_number_J5 (N : Nat) (p0_s : ByteArray) (n_7 : Int) (v_63 : Bool) : Option (Int × Bool) :=
  if v_63 = true then (m_r06_number_J4 N p0_s n_7 (IntKind.i64.wrap ((IntKind.i64.wrap (n_7 + 1)) + 1))) else (m_r06_number_J4 N p0_s n_7 (IntKind.i64.wrap (n_7 + 1)))
def m_r06_number_J3 (N : Nat) (p0_s : ByteArray) (n_7 : Int) (v_30 : Bool) : Option (Int × Bool) :=
  if v_30 = true then ((m_r06_at p0_s (IntKind.i64.wrap (n_7 + 1))).bind fun r_64 => if (decide (r_64 = 43)) = true then (m_r06_number_J5 N p0_s n_7 true) else ((m_r06_at p0_s (IntKind.i64.wrap (n_7 + 1))).bind fun r_69 => m_r06_number_J5 N p0_s n_7 (decide (r_69 = 45)))) else (m_r06_number_J2 n_7)
def m_r06_number_J1 (N : Nat) (p0_s : ByteArray) (n_7 : Int) : Option (Int × Bool) :=
  (m_r06_at p0_s n_7).bind fun r_73 => if (decide (r_73 = 101)) = true then (m_r06_number_J3 N p0_s n_7 true) else ((m_r06_at p0_s n_7).bind fun r_78 => m_r06_number_J3 N p0_s n_7 (decide (r_78 = 69)))
def m_r06_number (N : Nat) (p0_s : ByteArray) : Option (Int × Bool) :=
  (m_r06_digits N p0_s 0).bind fun r_1 => (m_r06_at p0_s r_1).bind fun r_82 => if (decide (r_82 = 46)) = true then ((m_r06_digits N p0_s (IntKind.i64.wrap (r_1 + 1))).bind fun r_86 => if (decide (0 < r_86)) = true then (m_r06_number_J1 N p0_s (IntKind.i64.wrap ((IntKind.i64.wrap (r_1 + 1)) + r_86))) else (m_r06_number_J1 N p0_s r_1)) else (m_r06_number_J1 N p0_s r_1)
def m_r06_quoted_J1 (kk_L1 : (ByteArray → Int → Option (Int × ByteArray × Bool))) (out_8 : ByteArray) (i_9 : Int) : Option (Int × ByteArray × Bool) :=
  kk_L1 out_8 (IntKind.i64.wrap (i_9 + 1))
def m_r06_quoted_J2 (p0_s : ByteArray) (out_4 : ByteArray) (i_5 : Int) (kk_L1 : (ByteArray → Int → Option (Int × ByteArray × Bool))) : Option (Int × ByteArray × Bool) :=
  chk ((0 : Int) ≤ (IntKind.i64.wrap (i_5 + 1)) ∧ (IntKind.i64.wrap (i_5 + 1)) ≤ (IntKind.i64.wrap ((IntKind.i64.wrap (i_5 + 1)) + 1)) ∧ (IntKind.i64.wrap ((IntKind.i64.wrap (i_5 + 1)) + 1)) ≤ (p0_s.size : Int)) (chk (out_4.size + (p0_s.extract (Int.toNat (IntKind.i64.wrap (i_5 + 1))) (Int.toNat (IntKind.i64.wrap ((IntKind.i64.wrap (i_5 + 1)) + 1)))).size ≤ maxLen) (m_r06_quoted_J1 kk_L1 (out_4 ++ (p0_s.extract (Int.toNat (IntKind.i64.wrap (i_5 + 1))) (Int.toNat (IntKind.i64.wrap ((IntKind.i64.wrap (i_5 + 1)) + 1))))) (IntKind.i64.wrap (i_5 + 1))))
def m_r06_quoted_J3 (p0_s : ByteArray) (out_4 : ByteArray) (i_5 : Int) (kk_L1 : (ByteArray → Int → Option (Int × ByteArray × Bool))) (v_36 : Bool) : Option (Int × ByteArray × Bool) :=
  if v_36 = true then (some (0, ⟨#[]⟩, false)) else (m_r06_quoted_J2 p0_s out_4 i_5 kk_L1)
def m_r06_quoted_L1 (N : Nat) (p0_s : ByteArray) : Nat → ByteArray → Int → Option (Int × ByteArray × Bool)
  | 0, _, _ => none
  | n_1 + 1, out_4, i_5 => if (decide (i_5 < (p0_s.size : Int))) = true then ((bat? p0_s i_5).bind fun e_10 => if (decide (e_10 = 34)) = true then (some (IntKind.i64.wrap (i_5 + 1), out_4, true)) else (if (decide (e_10 = 10)) = true then (some (0, ⟨#[]⟩, false)) else (if (decide (e_10 = 92)) = true then ((m_r06_at p0_s (IntKind.i64.wrap (i_5 + 1))).bind fun r_37 => if (!decide (r_37 = 34)) = true then ((m_r06_at p0_s (IntKind.i64.wrap (i_5 + 1))).bind fun r_42 => m_r06_quoted_J3 p0_s out_4 i_5 (m_r06_quoted_L1 N p0_s n_1) (!decide (r_42 = 92))) else (m_r06_quoted_J3 p0_s out_4 i_5 (m_r06_quoted_L1 N p0_s n_1) false)) else (chk ((0 : Int) ≤ i_5 ∧ i_5 ≤ (IntKind.i64.wrap (i_5 + 1)) ∧ (IntKind.i64.wrap (i_5 + 1)) ≤ (p0_s.size : Int)) (chk (out_4.size + (p0_s.extract (Int.toNat i_5) (Int.toNat (IntKind.i64.wrap (i_5 + 1)))).size ≤ maxLen) (m_r06_quoted_J1 (m_r06_quoted_L1 N p0_s n_1) (out_4 ++ (p0_s.extract (Int.toNat i_5) (Int.toNat (IntKind.i64.wrap (i_5 + 1))))) i_5)))))) else (some (0, ⟨#[]⟩, false))
termination_by structural x => x
def m_r06_quoted (N : Nat) (p0_s : ByteArray) : Option (Int × ByteArray × Bool) :=
  m_r06_quoted_L1 N p0_s N (⟨#[]⟩) 1
def m_r06_sign_L1 (N : Nat) (p0_c : Int) : Nat → Int → Option Bool
  | 0, _ => none
  | n_1 + 1, i_4 => if (decide (i_4 < 14)) = true then ((bat? (⟨#[123, 125, 40, 41, 91, 93, 44, 59, 124, 61, 43, 45, 42, 47]⟩) i_4).bind fun e_5 => if (decide (e_5 = p0_c)) = true then (some true) else ((m_r06_sign_L1 N p0_c n_1) (IntKind.i64.wrap (i_4 + 1)))) else (some false)
termination_by structural x => x
def m_r06_sign (N : Nat) (p0_c : Int) : Option Bool :=
  m_r06_sign_L1 N p0_c N 0
def m_r06_Take_J1 (N : Nat) (p0_s : ByteArray) (r_71 : (Int × Bool)) (v_95 : Bool) : Option (Int × (Int × ByteArray × Int × Int) × (Int × Int × Int × ByteArray)) :=
  if v_95 = true then ((m_r06_word N p0_s r_71.1).bind fun r_97 => chk ((0 : Int) ≤ 0 ∧ 0 ≤ (IntKind.i64.wrap (r_71.1 + r_97)) ∧ (IntKind.i64.wrap (r_71.1 + r_97)) ≤ (p0_s.size : Int)) (some (0, (0, ⟨#[]⟩, 0, 0), (22, 0, 0, p0_s.extract (Int.toNat 0) (Int.toNat (IntKind.i64.wrap (r_71.1 + r_97))))))) else (chk ((0 : Int) ≤ 0 ∧ 0 ≤ r_71.1 ∧ r_71.1 ≤ (p0_s.size : Int)) (some (r_71.1, (2, p0_s.extract (Int.toNat 0) (Int.toNat r_71.1), 0, 0), (0, 0, 0, ⟨#[]⟩))))
def m_r06_Take (N : Nat) (p0_s : ByteArray) : Option (Int × (Int × ByteArray × Int × Int) × (Int × Int × Int × ByteArray)) :=
  (m_r06_skipped N p0_s).bind fun r_11 => if (decide (r_11 < 0)) = true then (some (0, (0, ⟨#[]⟩, 0, 0), (21, 0, 0, ⟨#[47, 42]⟩))) else (if (decide (0 < r_11)) = true then (some (r_11, (0, ⟨#[]⟩, 0, 0), (0, 0, 0, ⟨#[]⟩))) else ((bat? p0_s 0).bind fun e_31 => (m_r06_Letter e_31).bind fun r_33 => if r_33 = true then ((m_r06_word N p0_s 0).bind fun r_37 => if (decide (64 < r_37)) = true then (chk ((0 : Int) ≤ 0 ∧ 0 ≤ r_37 ∧ r_37 ≤ (p0_s.size : Int)) (some (0, (0, ⟨#[]⟩, 0, 0), (20, 0, 0, p0_s.extract (Int.toNat 0) (Int.toNat r_37))))) else (chk ((0 : Int) ≤ 0 ∧ 0 ≤ r_37 ∧ r_37 ≤ (p0_s.size : Int)) (some (r_37, (1, p0_s.extract (Int.toNat 0) (Int.toNat r_37), 0, 0), (0, 0, 0, ⟨#[]⟩))))) else ((bat? p0_s 0).bind fun e_65 => (m_r06_Digit e_65).bind fun r_67 => if r_67 = true then ((m_r06_number N p0_s).bind fun r_71 => if r_71.2 = true then (m_r06_Take_J1 N p0_s r_71 true) else ((m_r06_at p0_s r_71.1).bind fun r_126 => (m_r06_Letter r_126).bind fun r_130 => m_r06_Take_J1 N p0_s r_71 r_130)) else ((bat? p0_s 0).bind fun e_134 => if (decide (e_134 = 34)) = true then ((m_r06_quoted N p0_s).bind fun r_136 => if (!r_136.2.2) = true then (some (0, (0, ⟨#[]⟩, 0, 0), (21, 0, 0, ⟨#[34]⟩))) else (some (r_136.1, (3, r_136.2.1, 0, 0), (0, 0, 0, ⟨#[]⟩)))) else ((bat? p0_s 0).bind fun e_156 => (m_r06_sign N e_156).bind fun r_158 => if r_158 = true then (chk ((0 : Int) ≤ 0 ∧ 0 ≤ (1 : Int) ∧ 1 ≤ (p0_s.size : Int)) (some (1, (4, p0_s.extract (Int.toNat 0) (Int.toNat 1), 0, 0), (0, 0, 0, ⟨#[]⟩)))) else (chk ((0 : Int) ≤ 0 ∧ 0 ≤ (1 : Int) ∧ 1 ≤ (p0_s.size : Int)) (some (0, (0, ⟨#[]⟩, 0, 0), (20, 0, 0, p0_s.extract (Int.toNat 0) (Int.toNat 1))))))))))
def m_r06_Place_J1 (i_6 : Int) (kk_L1 : (Int → Int → Int → Option (Int × Int))) (line_9 : Int) (col_10 : Int) : Option (Int × Int) :=
  kk_L1 line_9 col_10 (IntKind.i64.wrap (i_6 + 1))
def m_r06_Place_L1 (N : Nat) (p0_s : ByteArray) (p1_at : Int) : Nat → Int → Int → Int → Option (Int × Int)
  | 0, _, _, _ => none
  | n_1 + 1, line_4, col_5, i_6 => if (decide (i_6 < p1_at)) = true then ((bat? p0_s i_6).bind fun e_11 => if (decide (e_11 = 10)) = true then (m_r06_Place_J1 i_6 (m_r06_Place_L1 N p0_s p1_at n_1) (IntKind.i64.wrap (line_4 + 1)) 1) else (m_r06_Place_J1 i_6 (m_r06_Place_L1 N p0_s p1_at n_1) line_4 (IntKind.i64.wrap (col_5 + 1)))) else (some (line_4, col_5))
termination_by structural x => x
def m_r06_Place (N : Nat) (p0_s : ByteArray) (p1_at : Int) : Option (Int × Int) :=
  m_r06_Place_L1 N p0_s p1_at N 1 1 0
def m_r06_All_J1 (v_9 : Int) (v_10 : Int) (v_11 : Int) (v_12 : ByteArray) (i_17 : Int) (kk_L1 : (Int → Int → Int → ByteArray → (List (Int × ByteArray × Int × Int)) → Int → Option ((List (Int × ByteArray × Int × Int)) × (Int × Int × Int × ByteArray)))) (r_19 : (Int × (Int × ByteArray × Int × Int) × (Int × Int × Int × ByteArray))) (l_62 : List (Int × ByteArray × Int × Int)) : Option ((List (Int × ByteArray × Int × Int)) × (Int × Int × Int × ByteArray)) :=
  kk_L1 v_9 v_10 v_11 v_12 l_62 (IntKind.i64.wrap (i_17 + r_19.1))
def m_r06_All_L1 (N : Nat) (p0_text : ByteArray) : Nat → Int → Int → Int → ByteArray → (List (Int × ByteArray × Int × Int)) → Int → Option ((List (Int × ByteArray × Int × Int)) × (Int × Int × Int × ByteArray))
  | 0, _, _, _, _, _, _ => none
  | n_6 + 1, v_9, v_10, v_11, v_12, l_13, i_17 => if (decide (i_17 < (p0_text.size : Int))) = true then (chk ((0 : Int) ≤ i_17 ∧ i_17 ≤ (p0_text.size : Int) ∧ (p0_text.size : Int) ≤ (p0_text.size : Int)) ((m_r06_Take N (p0_text.extract (Int.toNat i_17) (Int.toNat (p0_text.size : Int)))).bind fun r_19 => (m_r06_Place N p0_text i_17).bind fun r_42 => if (!decide (r_19.2.2.1 = 0)) = true then (some (l_13, (r_19.2.2.1, r_42.1, r_42.2, r_19.2.2.2.2.2))) else (if (!decide (r_19.2.1.1 = 0)) = true then (chk ((l_13.length + [(r_19.2.1.1, r_19.2.1.2.1, r_42.1, r_42.2)].length) * 40 ≤ 140737488355328 ∧ l_13.length + [(r_19.2.1.1, r_19.2.1.2.1, r_42.1, r_42.2)].length ≤ maxLen) (m_r06_All_J1 v_9 v_10 v_11 v_12 i_17 (m_r06_All_L1 N p0_text n_6) r_19 (l_13 ++ [(r_19.2.1.1, r_19.2.1.2.1, r_42.1, r_42.2)]))) else (m_r06_All_J1 v_9 v_10 v_11 v_12 i_17 (m_r06_All_L1 N p0_text n_6) r_19 l_13)))) else ((m_r06_Place N p0_text (p0_text.size : Int)).bind fun r_86 => chk ((l_13.length + ([(0, ⟨#[]⟩, r_86.1, r_86.2)] : List (Int × ByteArray × Int × Int)).length) * 40 ≤ 140737488355328 ∧ l_13.length + ([(0, ⟨#[]⟩, r_86.1, r_86.2)] : List (Int × ByteArray × Int × Int)).length ≤ maxLen) (some (l_13 ++ ([(0, ⟨#[]⟩, r_86.1, r_86.2)] : List (Int × ByteArray × Int × Int)), (0, 0, 0, ⟨#[]⟩))))
termination_by structural x => x
def m_r06_All (N : Nat) (p0_text : ByteArray) : Option ((List (Int × ByteArray × Int × Int)) × (Int × Int × Int × ByteArray)) :=
  m_r06_All_L1 N p0_text N 0 0 0 (⟨#[]⟩) ([] : List (Int × ByteArray × Int × Int)) 0
theorem sints_app (a b : ByteArray) : sints (a ++ b) = sints a ++ sints b := by
 rw [sints, sints, sints, ByteArray.toList_data_append, List.map_append]
theorem sints_rng {s : ByteArray} {x : Int} (h : x ∈ sints s) : 0 ≤ x ∧ x < 256 := by
 obtain ⟨b, _, rfl⟩ := List.mem_map.1 h
 have := b.toNat_lt
 omega
theorem bstr_sints (s : ByteArray) : bstr (sints s) = s := by
 rw [bstr_u]
 have h : ubytes (sints s) = s.data.toList := by
  rw [ubytes, sints, List.map_map]
  conv => rhs; rw [← List.map_id s.data.toList]
  refine List.map_congr_left fun b _ => ?_
  simp
 rw [h]
theorem bat_sints (s : ByteArray) (i : Nat) : bat? s (i : Int) = (sints s)[i]? := by
 unfold bat? sints
 rw [if_pos (by omega), Int.toNat_natCast, List.getElem?_map, Array.getElem?_toList]
 by_cases h : i < s.size
 ·rw [getElem?_pos s i h, getElem?_pos s.data i h]; rfl
 ·rw [getElem?_neg s i h, getElem?_neg s.data i h]
theorem bat_lt {s : ByteArray} {i : Nat} (h : i < s.size) : bat? s (i : Int) = some ((sints s)[i]'(by rw [sints_len]; exact h)) := by
 rw [bat_sints, List.getElem?_eq_getElem]
theorem nil_appB (b : ByteArray) : (⟨#[]⟩ : ByteArray) ++ b = b := ByteArray.empty_append
def letB (c : Int) : Bool := decide (65 ≤ c ∧ c ≤ 90 ∨ 97 ≤ c ∧ c ≤ 122 ∨ c = 95)
def digB (c : Int) : Bool := decide (48 ≤ c ∧ c ≤ 57)
def wrdB (c : Int) : Bool := letB c || digB c
theorem lex_letter_eq (c : Int) : m_lex_letter c = some (letB c) := by
 by_cases h1 : 65 ≤ c <;> by_cases h2 : c ≤ 90 <;> by_cases h3 : 97 ≤ c <;> by_cases h4 : c ≤ 122 <;> by_cases h5 : c = 95 <;>
  simp [m_lex_letter, m_lex_letter_J1, m_lex_letter_J2, m_lex_letter_J3, m_lex_letter_J4, letB, *]
theorem ref_letter_eq (c : Int) : m_r06_Letter c = some (letB c) := by
 by_cases h1 : 65 ≤ c <;> by_cases h2 : c ≤ 90 <;> by_cases h3 : 97 ≤ c <;> by_cases h4 : c ≤ 122 <;> by_cases h5 : c = 95 <;>
  simp [m_r06_Letter, m_r06_Letter_J1, letB, *]
theorem lex_digit_eq (c : Int) : m_lex_digit c = some (digB c) := by
 by_cases h1 : 48 ≤ c <;> by_cases h2 : c ≤ 57 <;> simp [m_lex_digit, m_lex_digit_J1, digB, *]
theorem ref_digit_eq (c : Int) : m_r06_Digit c = some (digB c) := by
 by_cases h1 : 48 ≤ c <;> by_cases h2 : c ≤ 57 <;> simp [m_r06_Digit, m_r06_Digit_J1, digB, *]
theorem inWord_eq (c : Int) : m_lex_inWord c = some (wrdB c) := by
 rw [m_lex_inWord, lex_letter_eq, Option.bind_some]
 cases h : letB c with
 | true => rw [if_pos rfl, m_lex_inWord_J1, wrdB, h]; rfl
 | false => rw [if_neg (by decide), lex_digit_eq, Option.bind_some, m_lex_inWord_J1, wrdB, h]; rfl
def runS (B : Int → Bool) (l : List Int) : Nat := (l.takeWhile B).length
theorem runS_cons (B : Int → Bool) (c : Int) (l : List Int) : runS B (c :: l) = if B c = true then runS B l + 1 else 0 := by
 unfold runS
 rw [List.takeWhile_cons]
 split <;> simp
theorem runS_le (B : Int → Bool) (l : List Int) : runS B l ≤ l.length := (List.takeWhile_prefix B).length_le
section
variable {N : Nat} {s : ByteArray} (hs : s.size ≤ 1099511627776)
include hs
theorem lex_run_L1 (at_ : Nat) (ha : at_ ≤ s.size) : ∀ (f k : Nat), at_ + k ≤ s.size → s.size < f + at_ + k →
  m_lex_run_v2f36_L1 N s (at_ : Int) f (k : Int) = some ((k + runS wrdB ((sints s).drop (at_ + k)) : Nat) : Int)
 | 0, k, h1, h2 => by omega
 | f + 1, k, h1, h2 => by
  have hl := sints_len s
  rw [m_lex_run_v2f36_L1.eq_2, w64 (by omega)]
  rw [show (at_ : Int) + (k : Int) = ((at_ + k : Nat) : Int) by omega]
  by_cases hk : at_ + k < s.size
  ·rw [if_pos (decide_eq_true (by omega)), bat_lt hk, Option.bind_some, inWord_eq, Option.bind_some, m_lex_run_v2f36_J1, List.drop_eq_getElem_cons (by omega), runS_cons]
   by_cases hw : wrdB ((sints s)[at_ + k]'(by omega)) = true
   ·rw [if_pos hw, if_pos hw, w64 (by omega)]
    have ih := lex_run_L1 at_ ha f (k + 1) (by omega) (by omega)
    rw [show (k : Int) + 1 = ((k + 1 : Nat) : Int) by omega, ih, ← Nat.add_assoc]
    congr 2; omega
   ·rw [if_neg hw, if_neg hw, Nat.add_zero]
  ·rw [if_neg (by rw [decide_eq_false (by omega)]; decide), m_lex_run_v2f36_J1, if_neg (by decide), List.drop_eq_nil_of_le (by omega)]
   rfl
theorem lex_run_eq {at_ : Nat} (ha : at_ ≤ s.size) (hN : s.size < N) : m_lex_run_v2f36 N s (at_ : Int) = some ((runS wrdB ((sints s).drop at_) : Nat) : Int) := by
 have := lex_run_L1 hs (N := N) at_ ha N 0 (by omega) (by omega)
 rw [m_lex_run_v2f36]
 rw [Nat.zero_add] at this
 exact this
theorem ref_word_L1 (at_ : Nat) (ha : at_ ≤ s.size) : ∀ (f k : Nat), at_ + k ≤ s.size → s.size < f + at_ + k →
  m_r06_word_L1 N s (at_ : Int) f (k : Int) = some ((k + runS wrdB ((sints s).drop (at_ + k)) : Nat) : Int)
 | 0, k, h1, h2 => by omega
 | f + 1, k, h1, h2 => by
  have hl := sints_len s
  rw [m_r06_word_L1.eq_2, w64 (by omega)]
  rw [show (at_ : Int) + (k : Int) = ((at_ + k : Nat) : Int) by omega]
  by_cases hk : at_ + k < s.size
  ·rw [if_pos (decide_eq_true (by omega)), bat_lt hk, Option.bind_some, ref_letter_eq, Option.bind_some, Option.bind_some, ref_digit_eq, Option.bind_some, List.drop_eq_getElem_cons (by omega), runS_cons]
   have ih := ref_word_L1 at_ ha f (k + 1) (by omega) (by omega)
   have step : m_r06_word_J1 (k : Int) (m_r06_word_L1 N s (at_ : Int) f) = some ((k + (runS wrdB ((sints s).drop (at_ + k + 1)) + 1) : Nat) : Int) := by
    rw [m_r06_word_J1, w64 (by omega), show (k : Int) + 1 = ((k + 1 : Nat) : Int) by omega, ih, ← Nat.add_assoc]
    congr 2; omega
   cases h1 : letB ((sints s)[at_ + k]'(by omega)) with
   | true =>
    rw [if_neg (by decide), m_r06_word_J2, if_neg (by decide), if_pos (by rw [wrdB, h1]; rfl)]
    exact step
   | false =>
    cases h2 : digB ((sints s)[at_ + k]'(by omega)) with
    | true =>
     rw [if_pos (by decide), m_r06_word_J2, if_neg (by decide), if_pos (by rw [wrdB, h2, Bool.or_true])]
     exact step
    | false =>
     rw [if_pos (by decide), m_r06_word_J2, if_pos (by decide), if_neg (by rw [wrdB, h1, h2]; decide), Nat.add_zero]
  ·rw [if_neg (by rw [decide_eq_false (by omega)]; decide), List.drop_eq_nil_of_le (by omega)]
   rfl
theorem ref_word_eq {at_ : Nat} (ha : at_ ≤ s.size) (hN : s.size < N) : m_r06_word N s (at_ : Int) = some ((runS wrdB ((sints s).drop at_) : Nat) : Int) := by
 have := ref_word_L1 hs (N := N) at_ ha N 0 (by omega) (by omega)
 rw [m_r06_word]
 rw [Nat.zero_add] at this
 exact this
theorem lex_dig_L1 (at_ : Nat) (ha : at_ ≤ s.size) : ∀ (f k : Nat), at_ + k ≤ s.size → s.size < f + at_ + k →
  m_lex_run_v2f67_L1 N s (at_ : Int) f (k : Int) = some ((k + runS digB ((sints s).drop (at_ + k)) : Nat) : Int)
 | 0, k, h1, h2 => by omega
 | f + 1, k, h1, h2 => by
  have hl := sints_len s
  rw [m_lex_run_v2f67_L1.eq_2, w64 (by omega)]
  rw [show (at_ : Int) + (k : Int) = ((at_ + k : Nat) : Int) by omega]
  by_cases hk : at_ + k < s.size
  ·rw [if_pos (decide_eq_true (by omega)), bat_lt hk, Option.bind_some, lex_digit_eq, Option.bind_some, m_lex_run_v2f67_J1, List.drop_eq_getElem_cons (by omega), runS_cons]
   by_cases hw : digB ((sints s)[at_ + k]'(by omega)) = true
   ·rw [if_pos hw, if_pos hw, w64 (by omega)]
    have ih := lex_dig_L1 at_ ha f (k + 1) (by omega) (by omega)
    rw [show (k : Int) + 1 = ((k + 1 : Nat) : Int) by omega, ih, ← Nat.add_assoc]
    congr 2; omega
   ·rw [if_neg hw, if_neg hw, Nat.add_zero]
  ·rw [if_neg (by rw [decide_eq_false (by omega)]; decide), m_lex_run_v2f67_J1, if_neg (by decide), List.drop_eq_nil_of_le (by omega)]
   rfl
theorem lex_dig_eq {at_ : Nat} (ha : at_ ≤ s.size) (hN : s.size < N) : m_lex_run_v2f67 N s (at_ : Int) = some ((runS digB ((sints s).drop at_) : Nat) : Int) := by
 have := lex_dig_L1 hs (N := N) at_ ha N 0 (by omega) (by omega)
 rw [m_lex_run_v2f67]
 rw [Nat.zero_add] at this
 exact this
theorem ref_dig_L1 (at_ : Nat) (ha : at_ ≤ s.size) : ∀ (f k : Nat), at_ + k ≤ s.size → s.size < f + at_ + k →
  m_r06_digits_L1 N s (at_ : Int) f (k : Int) = some ((k + runS digB ((sints s).drop (at_ + k)) : Nat) : Int)
 | 0, k, h1, h2 => by omega
 | f + 1, k, h1, h2 => by
  have hl := sints_len s
  rw [m_r06_digits_L1.eq_2, w64 (by omega)]
  rw [show (at_ : Int) + (k : Int) = ((at_ + k : Nat) : Int) by omega]
  by_cases hk : at_ + k < s.size
  ·rw [if_pos (decide_eq_true (by omega)), bat_lt hk, Option.bind_some, ref_digit_eq, Option.bind_some, List.drop_eq_getElem_cons (by omega), runS_cons]
   by_cases hw : digB ((sints s)[at_ + k]'(by omega)) = true
   ·rw [if_neg (by rw [hw]; decide), if_pos hw, w64 (by omega)]
    have ih := ref_dig_L1 at_ ha f (k + 1) (by omega) (by omega)
    rw [show (k : Int) + 1 = ((k + 1 : Nat) : Int) by omega, ih, ← Nat.add_assoc]
    congr 2; omega
   ·rw [if_pos (by rw [Bool.eq_false_iff.2 hw]; rfl), if_neg hw, Nat.add_zero]
  ·rw [if_neg (by rw [decide_eq_false (by omega)]; decide), List.drop_eq_nil_of_le (by omega)]
   rfl
theorem ref_dig_eq {at_ : Nat} (ha : at_ ≤ s.size) (hN : s.size < N) : m_r06_digits N s (at_ : Int) = some ((runS digB ((sints s).drop at_) : Nat) : Int) := by
 have := ref_dig_L1 hs (N := N) at_ ha N 0 (by omega) (by omega)
 rw [m_r06_digits]
 rw [Nat.zero_add] at this
 exact this
end
/-! ### bytes that are looked at -/
theorem nd {p : Prop} [Decidable p] (h : ¬ p) : ¬ decide p = true := fun e => h (of_decide_eq_true e)
theorem sints_extract (s : ByteArray) (a b : Nat) : sints (s.extract a b) = ((sints s).take b).drop a := by
 rw [sints, sints, ByteArray.data_extract, Array.toList_extract, ← List.map_take, ← List.map_drop, List.extract_eq_take_drop]
 congr 1
 rw [List.drop_take]
theorem sints_ext0 (s : ByteArray) (b : Nat) : sints (s.extract 0 b) = (sints s).take b := by rw [sints_extract, List.drop_zero]
theorem sints_suf (s : ByteArray) (a : Nat) : sints (s.extract a s.size) = (sints s).drop a := by
 rw [sints_extract, List.take_of_length_le (by rw [sints_len]; omega)]
theorem ext_eq {a b : ByteArray} (h : sints a = sints b) : a = b := by rw [← bstr_sints a, h, bstr_sints]
theorem sints_bstr {xs : List Int} (h : ∀ x ∈ xs, 0 ≤ x ∧ x < 256) : sints (bstr xs) = xs := by
 rw [bstr_u, sints, ubytes]
 show List.map _ (List.map _ xs).toArray.toList = xs
 rw [List.map_map]
 conv => rhs; rw [← List.map_id xs]
 refine List.map_congr_left fun x hx => ?_
 have := h x hx
 simp
 omega
theorem getD_iff {o : Option Int} {c : Int} (hc : c ≠ 0) : o.getD 0 = c ↔ o = some c := by
 cases o with
 | none => exact ⟨fun h => absurd h.symm hc, fun h => by cases h⟩
 | some x => exact ⟨fun h => by rw [show x = c from h], fun h => by cases h; rfl⟩
section
variable {β : Type} (s : ByteArray) (n : Nat) (c d : Int) (K : Bool → Option β)
theorem bchk : (if (decide ((n : Int) < (s.size : Int))) = true then ((bat? s (n : Int)).bind fun e => K (decide (e = c))) else K false) = K (decide ((sints s)[n]? = some c)) := by
 have hl := sints_len s
 by_cases h : n < s.size
 ·rw [if_pos (decide_eq_true (by omega)), bat_sints, List.getElem?_eq_getElem (by omega), Option.bind_some]
  congr 1
  exact decide_eq_decide.2 ⟨fun h => by rw [h], fun h => by cases h; rfl⟩
 ·rw [if_neg (by rw [decide_eq_false (by omega)]; decide), List.getElem?_eq_none (by omega)]; rfl
theorem bchk2 : (if (decide ((n : Int) < (s.size : Int))) = true then ((bat? s (n : Int)).bind fun e => if (decide (e = c)) = true then K true else ((bat? s (n : Int)).bind fun e => K (decide (e = d)))) else K false) = K (decide ((sints s)[n]? = some c ∨ (sints s)[n]? = some d)) := by
 have hl := sints_len s
 by_cases h : n < s.size
 ·rw [if_pos (decide_eq_true (by omega)), bat_sints, List.getElem?_eq_getElem (by omega), Option.bind_some, Option.bind_some]
  by_cases hc : (sints s)[n]'(by omega) = c
  ·rw [if_pos (decide_eq_true hc), decide_eq_true (.inl (by rw [hc]))]
  ·rw [if_neg (by rw [decide_eq_false hc]; decide)]
   congr 1
   exact decide_eq_decide.2 ⟨fun h => .inr (by rw [h]), fun h => by rcases h with h | h <;> cases h; exact absurd rfl hc; rfl⟩
 ·rw [if_neg (by rw [decide_eq_false (by omega)]; decide), List.getElem?_eq_none (by omega), decide_eq_false (by rintro (h | h) <;> cases h)]
theorem ref_at_eq : m_r06_at s (n : Int) = some (((sints s)[n]?).getD 0) := by
 have hl := sints_len s
 rw [m_r06_at, if_neg (by rw [decide_eq_false (by omega)]; decide), m_r06_at_J1]
 by_cases h : n < s.size
 ·rw [if_neg (by rw [decide_eq_false (by omega)]; decide), bat_sints, List.getElem?_eq_getElem (by omega)]; rfl
 ·rw [if_pos (decide_eq_true (by omega)), List.getElem?_eq_none (by omega)]; rfl
theorem atchk (hc : c ≠ 0) : ((m_r06_at s (n : Int)).bind fun r => K (decide (r = c))) = K (decide ((sints s)[n]? = some c)) := by
 rw [ref_at_eq, Option.bind_some]
 congr 1
 exact decide_eq_decide.2 (getD_iff hc)
theorem atchk2 (hc : c ≠ 0) (hd : d ≠ 0) : ((m_r06_at s (n : Int)).bind fun r => if (decide (r = c)) = true then K true else ((m_r06_at s (n : Int)).bind fun r => K (decide (r = d)))) = K (decide ((sints s)[n]? = some c ∨ (sints s)[n]? = some d)) := by
 rw [ref_at_eq, Option.bind_some, Option.bind_some]
 by_cases h : (sints s)[n]? = some c
 ·rw [if_pos (decide_eq_true ((getD_iff hc).2 h)), decide_eq_true (.inl h)]
 ·rw [if_neg (by rw [decide_eq_false (fun e => h ((getD_iff hc).1 e))]; decide)]
  congr 1
  exact decide_eq_decide.2 ⟨fun e => .inr ((getD_iff hd).1 e), fun e => (getD_iff hd).2 (e.resolve_left h)⟩
end
/-! ### exponents above the limit -/
def valD (v : Int) (ds : List Int) : Int := ds.foldl (fun v d => 10 * v + (d - 48)) v
def bigS (ds : List Int) : Bool := decide (1000 < valD 0 ds)
theorem valD_ge : ∀ {ds : List Int} {v : Int}, (∀ d ∈ ds, digB d = true) → 0 ≤ v → v ≤ valD v ds
 | [], v, _, _ => Int.le_refl _
 | d :: ds, v, h, hv => by
  have hd := of_decide_eq_true (h d List.mem_cons_self)
  have := valD_ge (v := 10 * v + (d - 48)) (fun x hx => h x (List.mem_cons_of_mem _ hx)) (by omega)
  rw [valD, List.foldl_cons]
  rw [valD] at this
  omega
theorem ref_large_L1 {N : Nat} {s : ByteArray} (hs : s.size ≤ 1099511627776) (hd : ∀ x ∈ sints s, digB x = true) : ∀ (f i : Nat) (v : Int), i ≤ s.size → s.size < f + i → 0 ≤ v → v ≤ 1000 →
  m_r06_large_L1 N s f v (i : Int) = some (decide (1000 < valD v ((sints s).drop i)))
 | 0, i, v, h1, h2, _, _ => by omega
 | f + 1, i, v, h1, h2, h3, h4 => by
  have hl := sints_len s
  rw [m_r06_large_L1.eq_2]
  by_cases hk : i < s.size
  ·have hdd := of_decide_eq_true (hd _ (List.getElem_mem (show i < (sints s).length by omega)))
   rw [if_pos (decide_eq_true (by omega)), bat_lt hk, Option.bind_some, List.drop_eq_getElem_cons (by omega)]
   generalize hx : (sints s)[i]'(by omega) = x at hdd
   have hu : IntKind.u8.wrap (x - 48) = x - 48 := by rw [IntKind.wrap_u8]; omega
   rw [hu, w64 (x := x - 48) (by omega), w64 (x := 10 * v) (by omega), w64 (x := 10 * v + (x - 48)) (by omega)]
   have hc : valD v (x :: (sints s).drop (i + 1)) = valD (10 * v + (x - 48)) ((sints s).drop (i + 1)) := rfl
   by_cases hb : 1000 < 10 * v + (x - 48)
   ·have := valD_ge (v := 10 * v + (x - 48)) (ds := (sints s).drop (i + 1)) (fun y hy => hd y (List.mem_of_mem_drop hy)) (by omega)
    rw [if_pos (decide_eq_true hb), hc, decide_eq_true (by omega)]
   ·rw [if_neg (by rw [decide_eq_false hb]; decide), hc, w64 (x := (i : Int) + 1) (by omega)]
    exact ref_large_L1 hs hd f (i + 1) _ (by omega) (by omega) (by omega) (by omega)
  ·rw [if_neg (by rw [decide_eq_false (by omega)]; decide), List.drop_eq_nil_of_le (by omega)]
   show _ = some (decide (1000 < v))
   rw [decide_eq_false (by omega)]
theorem ref_large_eq {N : Nat} {s : ByteArray} (hs : s.size ≤ 1099511627776) (hN : s.size < N) (hd : ∀ x ∈ sints s, digB x = true) : m_r06_large N s = some (bigS (sints s)) := by
 rw [m_r06_large]
 exact ref_large_L1 hs hd N 0 0 (by omega) (by omega) (by omega) (by omega)
theorem val_zeros : ∀ (l : List UInt8), valD 0 (l.map fun b => (b.toNat : Int)) = valD 0 ((l.dropWhile (· == 48)).map fun b => (b.toNat : Int))
 | [] => rfl
 | b :: l => by
  rw [List.dropWhile_cons]
  by_cases h : (b == 48) = true
  ·rw [if_pos h, ← val_zeros l]
   have : b = 48 := by simpa using h
   subst this; rfl
  ·rw [if_neg h]
theorem lex_large_eq {s : ByteArray} (hd : ∀ x ∈ sints s, digB x = true) : m_lex_large s = some (bigS (sints s)) := by
 rw [m_lex_large, m_triml, if_pos rfl, Option.bind_some, bigS, sints, val_zeros]
 rw [show Lib.trimLeftB s.data.toList 48 = s.data.toList.dropWhile (· == 48) from rfl]
 have hh : ∀ b ∈ s.data.toList.dropWhile (· == 48), 48 ≤ b.toNat ∧ b.toNat ≤ 57 := fun b hb => by
  have hb2 : b ∈ s.data.toList := (List.dropWhile_suffix _).subset hb
  have := of_decide_eq_true (hd (b.toNat : Int) (List.mem_map.2 ⟨b, hb2, rfl⟩))
  omega
 have hz : ∀ b, (s.data.toList.dropWhile (· == 48)).head? = some b → b ≠ 48 := fun b hb e => by
  have := List.head?_dropWhile_not (fun b : UInt8 => b == 48) s.data.toList
  rw [hb] at this
  subst e
  exact absurd this (by decide)
 generalize s.data.toList.dropWhile (· == 48) = t at hh hz
 have nn : ∀ (b : UInt8), b ≠ 48 → b.toNat ≠ 48 := fun b h e => h (UInt8.toNat_inj.1 e)
 match t, hh, hz with
 | [], _, _ => rfl
 | [a], hh, hz =>
  have ha := hh a (by simp)
  rw [if_neg (nd (by show ¬ (4 : Int) < ((1 : Nat) : Int); decide)), if_neg (nd (by show ¬ ((1 : Nat) : Int) = 4; decide)), m_lex_large_J1]
  simp [valD]; omega
 | [a, b], hh, hz =>
  have ha := hh a (by simp); have hb := hh b (by simp)
  rw [if_neg (nd (by show ¬ (4 : Int) < ((2 : Nat) : Int); decide)), if_neg (nd (by show ¬ ((2 : Nat) : Int) = 4; decide)), m_lex_large_J1]
  simp [valD]; omega
 | [a, b, c], hh, hz =>
  have ha := hh a (by simp); have hb := hh b (by simp); have hc := hh c (by simp)
  rw [if_neg (nd (by show ¬ (4 : Int) < ((3 : Nat) : Int); decide)), if_neg (nd (by show ¬ ((3 : Nat) : Int) = 4; decide)), m_lex_large_J1]
  simp [valD]; omega
 | [a, b, c, d], hh, hz =>
  have ha := hh a (by simp); have hb := hh b (by simp); have hc := hh c (by simp); have hd := hh d (by simp)
  have h1 := nn a (hz a rfl)
  rw [if_neg (nd (by show ¬ (4 : Int) < ((4 : Nat) : Int); decide)), if_pos (decide_eq_true (by show ((4 : Nat) : Int) = 4; decide)), m_lex_large_J1, gtS, ByteArray.toList_eq, ByteArray.toList_eq]
  have l1 : ¬ a < 49 := by rw [UInt8.lt_iff_toNat_lt]; show ¬ a.toNat < 49; omega
  have l2 : ¬ b < 48 := by rw [UInt8.lt_iff_toNat_lt]; show ¬ b.toNat < 48; omega
  have l3 : ¬ c < 48 := by rw [UInt8.lt_iff_toNat_lt]; show ¬ c.toNat < 48; omega
  have l4 : ¬ d < 48 := by rw [UInt8.lt_iff_toNat_lt]; show ¬ d.toNat < 48; omega
  simp only [Op.bytesLess, valD, List.map_cons, List.map_nil, List.foldl_cons, List.foldl_nil, l1, l2, l3, l4, decide_false, Bool.false_or, Bool.and_false]
  congr 1
  have e0 : ([a, b, c, d] == [49, 48, 48, 48]) = decide (a.toNat = 49 ∧ b.toNat = 48 ∧ c.toNat = 48 ∧ d.toNat = 48) := by
   rw [Bool.eq_iff_iff, beq_iff_eq, decide_eq_true_iff]
   simp only [List.cons.injEq, and_true, ← UInt8.toNat_inj]
   rfl
  rw [e0, ← decide_not]
  refine decide_eq_decide.2 ⟨fun h => ?_, fun h => ?_⟩ <;> omega
 | a :: b :: c :: d :: e :: r, hh, hz =>
  have ha := hh a (by simp); have hb := hh b (by simp); have hc := hh c (by simp); have hd := hh d (by simp); have he := hh e (by simp)
  have h1 := nn a (hz a rfl)
  have hr : ∀ x ∈ r.map (fun b : UInt8 => (b.toNat : Int)), digB x = true := fun x hx => by
   obtain ⟨y, hy, rfl⟩ := List.mem_map.1 hx
   have := hh y (by simp [hy])
   exact decide_eq_true (by omega)
  have := valD_ge (v := 10 * (10 * (10 * (10 * (10 * 0 + ((a.toNat : Int) - 48)) + ((b.toNat : Int) - 48)) + ((c.toNat : Int) - 48)) + ((d.toNat : Int) - 48)) + ((e.toNat : Int) - 48)) hr (by omega)
  rw [if_pos (decide_eq_true (by show (4 : Int) < (((a :: b :: c :: d :: e :: r).toArray.size : Nat) : Int); simp; omega)), m_lex_large_J1]
  congr 1
  symm
  refine decide_eq_true ?_
  show 1000 < valD _ _
  simp only [valD, List.map_cons, List.foldl_cons]
  simp only [valD] at this
  omega
/-! ### numbers -/
def intS (xs : List Int) : Nat := if xs[runS digB xs]? = some 46 ∧ 0 < runS digB (xs.drop (runS digB xs + 1)) then runS digB xs + (1 + runS digB (xs.drop (runS digB xs + 1))) else runS digB xs
def expK (xs : List Int) (n : Nat) : Nat := if xs[n + 1]? = some 43 ∨ xs[n + 1]? = some 45 then n + 2 else n + 1
def expS (xs : List Int) (n : Nat) : Nat × List Int :=
 if (xs[n]? = some 101 ∨ xs[n]? = some 69) ∧ 0 < runS digB (xs.drop (expK xs n)) then (expK xs n + runS digB (xs.drop (expK xs n)), (xs.drop (expK xs n)).takeWhile digB) else (n, [])
theorem run_take (B : Int → Bool) (l : List Int) : l.take (runS B l) = l.takeWhile B := ((List.prefix_iff_eq_take.1 (List.takeWhile_prefix (l := l) B))).symm
theorem get_lt {xs : List Int} {n : Nat} {c : Int} (h : xs[n]? = some c) : n < xs.length := by
 rcases Nat.lt_or_ge n xs.length with h1 | h1
 ·exact h1
 ·rw [List.getElem?_eq_none h1] at h; cases h
theorem run_drop_le (B : Int → Bool) (l : List Int) (k : Nat) : runS B (l.drop k) ≤ l.length - k := by
 have := runS_le B (l.drop k); rwa [List.length_drop] at this
theorem intS_le (xs : List Int) : intS xs ≤ xs.length := by
 rw [intS]
 have h0 := runS_le digB xs
 split
 ·rename_i h
  have := get_lt h.1
  have := run_drop_le digB xs (runS digB xs + 1)
  omega
 ·exact h0
theorem expS_le (xs : List Int) {n : Nat} (h : n ≤ xs.length) : (expS xs n).1 ≤ xs.length := by
 rw [expS]
 split
 ·rename_i h
  have := run_drop_le digB xs (expK xs n)
  show expK xs n + _ ≤ _
  omega
 ·exact h
theorem expS_digs (xs : List Int) (n : Nat) : ∀ x ∈ (expS xs n).2, digB x = true := by
 rw [expS]
 split
 ·exact fun x hx => List.all_eq_true.1 (List.all_takeWhile) x hx
 ·intro x hx; cases hx
section
variable {N : Nat} {s : ByteArray} (hs : s.size ≤ 1099511627776) (hN : s.size < N)
include hs hN
theorem lex_J3 (n : Nat) (hn : n ≤ s.size) : ∃ D, m_lex_number_J3 N s (n : Int) (decide ((sints s)[n]? = some 101 ∨ (sints s)[n]? = some 69)) = some ((((expS (sints s) n).1 : Nat) : Int), D) ∧ sints D = (expS (sints s) n).2 := by
 have hl := sints_len s
 by_cases h : (sints s)[n]? = some 101 ∨ (sints s)[n]? = some 69
 ·have hlt : n < s.size := by rcases h with h | h <;> have := get_lt h <;> omega
  rw [decide_eq_true h, m_lex_number_J3, if_pos rfl, w64 (by omega), show (n : Int) + 1 = ((n + 1 : Nat) : Int) by omega]
  rw [bchk2 s (n + 1) 43 45 (m_lex_number_J5 N s (n : Int))]
  have hk : expK (sints s) n ≤ s.size := by
   rw [expK]
   split
   ·rename_i h2
    rcases h2 with h2 | h2 <;> have := get_lt h2 <;> omega
   ·omega
  have e : m_lex_number_J5 N s (n : Int) (decide ((sints s)[n + 1]? = some 43 ∨ (sints s)[n + 1]? = some 45)) = m_lex_number_J4 N s (n : Int) ((expK (sints s) n : Nat) : Int) := by
   rw [m_lex_number_J5, expK]
   by_cases h2 : (sints s)[n + 1]? = some 43 ∨ (sints s)[n + 1]? = some 45
   ·rw [if_pos (decide_eq_true h2), if_pos h2, w64 (x := (n : Int) + 1) (by omega), w64 (by omega)]
    congr 1
   ·rw [if_neg (nd h2), if_neg h2, w64 (by omega)]; rfl
  rw [e, m_lex_number_J4, lex_dig_eq hs hk hN, Option.bind_some, expS]
  have hr := run_drop_le digB (sints s) (expK (sints s) n)
  by_cases h0 : 0 < runS digB ((sints s).drop (expK (sints s) n))
  ·rw [if_pos (decide_eq_true (by omega)), if_pos ⟨h, h0⟩, w64 (by omega), chk_pos (by omega)]
   refine ⟨_, rfl, ?_⟩
   rw [← run_take, show Int.toNat ((expK (sints s) n : Nat) : Int) = expK (sints s) n from rfl, show Int.toNat (((expK (sints s) n : Nat) : Int) + ((runS digB ((sints s).drop (expK (sints s) n)) : Nat) : Int)) = expK (sints s) n + runS digB ((sints s).drop (expK (sints s) n)) by omega, sints_extract, List.drop_take]
   congr 1; omega
  ·rw [if_neg (nd (by omega)), if_neg (fun e => h0 e.2), m_lex_number_J2]
   exact ⟨_, rfl, rfl⟩
 ·rw [decide_eq_false h, m_lex_number_J3, if_neg (by decide), expS, if_neg (fun e => h e.1), m_lex_number_J2]
  exact ⟨_, rfl, rfl⟩
theorem ref_J3 (n : Nat) (hn : n ≤ s.size) : m_r06_number_J3 N s (n : Int) (decide ((sints s)[n]? = some 101 ∨ (sints s)[n]? = some 69)) = some ((((expS (sints s) n).1 : Nat) : Int), bigS (expS (sints s) n).2) := by
 have hl := sints_len s
 by_cases h : (sints s)[n]? = some 101 ∨ (sints s)[n]? = some 69
 ·have hlt : n < s.size := by rcases h with h | h <;> have := get_lt h <;> omega
  rw [decide_eq_true h, m_r06_number_J3, if_pos rfl, w64 (by omega), show (n : Int) + 1 = ((n + 1 : Nat) : Int) by omega]
  rw [atchk2 s (n + 1) 43 45 (m_r06_number_J5 N s (n : Int)) (by decide) (by decide)]
  have hk : expK (sints s) n ≤ s.size := by
   rw [expK]
   split
   ·rename_i h2
    rcases h2 with h2 | h2 <;> have := get_lt h2 <;> omega
   ·omega
  have e : m_r06_number_J5 N s (n : Int) (decide ((sints s)[n + 1]? = some 43 ∨ (sints s)[n + 1]? = some 45)) = m_r06_number_J4 N s (n : Int) ((expK (sints s) n : Nat) : Int) := by
   rw [m_r06_number_J5, expK]
   by_cases h2 : (sints s)[n + 1]? = some 43 ∨ (sints s)[n + 1]? = some 45
   ·rw [if_pos (decide_eq_true h2), if_pos h2, w64 (x := (n : Int) + 1) (by omega), w64 (by omega)]
    congr 1
   ·rw [if_neg (nd h2), if_neg h2, w64 (by omega)]; rfl
  rw [e, m_r06_number_J4, ref_dig_eq hs hk hN, Option.bind_some, expS]
  have hr := run_drop_le digB (sints s) (expK (sints s) n)
  by_cases h0 : 0 < runS digB ((sints s).drop (expK (sints s) n))
  ·rw [if_pos (decide_eq_true (by omega)), if_pos ⟨h, h0⟩, w64 (by omega), chk_pos (by omega)]
   have hD : sints (s.extract (Int.toNat ((expK (sints s) n : Nat) : Int)) (Int.toNat (((expK (sints s) n : Nat) : Int) + ((runS digB ((sints s).drop (expK (sints s) n)) : Nat) : Int)))) = ((sints s).drop (expK (sints s) n)).takeWhile digB := by
    rw [← run_take, show Int.toNat ((expK (sints s) n : Nat) : Int) = expK (sints s) n from rfl, show Int.toNat (((expK (sints s) n : Nat) : Int) + ((runS digB ((sints s).drop (expK (sints s) n)) : Nat) : Int)) = expK (sints s) n + runS digB ((sints s).drop (expK (sints s) n)) by omega, sints_extract, List.drop_take]
    congr 1; omega
   have hz : (s.extract (Int.toNat ((expK (sints s) n : Nat) : Int)) (Int.toNat (((expK (sints s) n : Nat) : Int) + ((runS digB ((sints s).drop (expK (sints s) n)) : Nat) : Int)))).size ≤ s.size := by
    rw [ByteArray.size_extract]; omega
   rw [ref_large_eq (by omega) (by omega) (by rw [hD]; exact fun x hx => List.all_eq_true.1 (List.all_takeWhile) x hx), Option.bind_some, hD]
   rfl
  ·rw [if_neg (nd (by omega)), if_neg (fun e => h0 e.2), m_r06_number_J2]; rfl
 ·rw [decide_eq_false h, m_r06_number_J3, if_neg (by decide), expS, if_neg (fun e => h e.1), m_r06_number_J2]; rfl
theorem lex_number_eq : ∃ D, m_lex_number N s = some ((((expS (sints s) (intS (sints s))).1 : Nat) : Int), D) ∧ sints D = (expS (sints s) (intS (sints s))).2 := by
 have hl := sints_len s
 have h0 := lex_dig_eq (N := N) hs (at_ := 0) (by omega) hN
 rw [List.drop_zero] at h0
 rw [m_lex_number, show (0 : Int) = ((0 : Nat) : Int) from rfl, h0, Option.bind_some, bchk s (runS digB (sints s)) 46 (m_lex_number_J6 N s _)]
 have e : m_lex_number_J6 N s ((runS digB (sints s) : Nat) : Int) (decide ((sints s)[runS digB (sints s)]? = some 46)) = m_lex_number_J1 N s ((intS (sints s) : Nat) : Int) := by
  rw [m_lex_number_J6, intS]
  by_cases h : (sints s)[runS digB (sints s)]? = some 46
  ·have hlt := get_lt h
   rw [if_pos (decide_eq_true h), w64 (by omega), show ((runS digB (sints s) : Nat) : Int) + 1 = ((runS digB (sints s) + 1 : Nat) : Int) by omega, lex_dig_eq hs (by omega) hN, Option.bind_some]
   have hr := run_drop_le digB (sints s) (runS digB (sints s) + 1)
   by_cases h1 : 0 < runS digB ((sints s).drop (runS digB (sints s) + 1))
   ·rw [if_pos (decide_eq_true (by omega)), if_pos ⟨h, h1⟩, w64 (x := 1 + _) (by omega), w64 (by omega)]
    congr 1
   ·rw [if_neg (nd (by omega)), if_neg (fun e => h1 e.2)]
  ·rw [if_neg (nd h), if_neg (fun e => h e.1)]
 rw [e, m_lex_number_J1, bchk2 s (intS (sints s)) 101 69 (m_lex_number_J3 N s _)]
 exact lex_J3 hs hN _ (by have := intS_le (sints s); omega)
theorem ref_number_eq : m_r06_number N s = some ((((expS (sints s) (intS (sints s))).1 : Nat) : Int), bigS (expS (sints s) (intS (sints s))).2) := by
 have hl := sints_len s
 have h0 := ref_dig_eq (N := N) hs (at_ := 0) (by omega) hN
 rw [List.drop_zero] at h0
 rw [m_r06_number, show (0 : Int) = ((0 : Nat) : Int) from rfl, h0, Option.bind_some, ref_at_eq, Option.bind_some]
 have e : (if (decide (((sints s)[runS digB (sints s)]?).getD 0 = 46)) = true then ((m_r06_digits N s (IntKind.i64.wrap (((runS digB (sints s) : Nat) : Int) + 1))).bind fun r_86 => if (decide (((0 : Nat) : Int) < r_86)) = true then (m_r06_number_J1 N s (IntKind.i64.wrap ((IntKind.i64.wrap (((runS digB (sints s) : Nat) : Int) + 1)) + r_86))) else (m_r06_number_J1 N s ((runS digB (sints s) : Nat) : Int))) else (m_r06_number_J1 N s ((runS digB (sints s) : Nat) : Int))) = m_r06_number_J1 N s ((intS (sints s) : Nat) : Int) := by
  rw [intS]
  by_cases h : (sints s)[runS digB (sints s)]? = some 46
  ·have hlt := get_lt h
   rw [if_pos (decide_eq_true ((getD_iff (by decide)).2 h)), w64 (x := ((runS digB (sints s) : Nat) : Int) + 1) (by omega), show ((runS digB (sints s) : Nat) : Int) + 1 = ((runS digB (sints s) + 1 : Nat) : Int) by omega, ref_dig_eq hs (by omega) hN, Option.bind_some]
   have hr := run_drop_le digB (sints s) (runS digB (sints s) + 1)
   by_cases h1 : 0 < runS digB ((sints s).drop (runS digB (sints s) + 1))
   ·rw [if_pos (decide_eq_true (by omega)), if_pos ⟨h, h1⟩, w64 (by omega)]
    congr 1; omega
   ·rw [if_neg (nd (by omega)), if_neg (fun e => h1 e.2)]
  ·rw [if_neg (nd (fun e => h ((getD_iff (by decide)).1 e))), if_neg (fun e => h e.1)]
 refine Eq.trans e ?_
 rw [m_r06_number_J1, atchk2 s (intS (sints s)) 101 69 (m_r06_number_J3 N s _) (by decide) (by decide)]
 exact ref_J3 hs hN _ (by have := intS_le (sints s); omega)
end
/-! ### quoted texts -/
def qtS : List Int → Option (Nat × List Int)
 | [] => none
 | c :: r => if c = 34 then some (1, []) else if c = 10 then none else if c = 92 then (match r with
   | [] => none
   | d :: r2 => if d = 34 ∨ d = 92 then (qtS r2).map fun p => (p.1 + 2, d :: p.2) else none)
  else (qtS r).map fun p => (p.1 + 1, c :: p.2)
theorem bstr_app (a b : List Int) : bstr (a ++ b) = bstr a ++ bstr b := by
 apply ByteArray.ext
 rw [ByteArray.data_append, bstr_u, bstr_u, bstr_u, ubytes, ubytes, ubytes, List.map_append]
 simp
theorem qtS_rng : ∀ (xs : List Int) (p : Nat × List Int), (∀ x ∈ xs, 0 ≤ x ∧ x < 256) → qtS xs = some p → (∀ x ∈ p.2, 0 ≤ x ∧ x < 256) ∧ p.1 ≤ xs.length ∧ p.2.length ≤ xs.length ∧ 1 ≤ p.1
 | [], p, _, h => by rw [qtS] at h; cases h
 | c :: [], p, hr, h => by
  rw [qtS] at h
  split at h
  ·cases h; exact ⟨fun x hx => (List.not_mem_nil hx).elim, by simp, by simp, by simp⟩
  ·split at h
   ·cases h
   ·split at h
    ·cases h
    ·rw [qtS] at h; cases h
 | c :: d :: r, p, hr, h => by
  rw [qtS] at h
  split at h
  ·cases h; exact ⟨fun x hx => (List.not_mem_nil hx).elim, by simp, by simp, by simp⟩
  ·split at h
   ·cases h
   ·split at h
    ·split at h
     ·obtain ⟨q, hq, rfl⟩ := Option.map_eq_some_iff.1 h
      obtain ⟨h1, h2, h3, h4⟩ := qtS_rng r q (fun x hx => hr x (List.mem_cons_of_mem _ (List.mem_cons_of_mem _ hx))) hq
      refine ⟨fun x hx => ?_, by simp; omega, by simp; omega, by simp⟩
      rcases List.mem_cons.1 hx with rfl | hx
      ·exact hr _ (List.mem_cons_of_mem _ List.mem_cons_self)
      ·exact h1 x hx
     ·cases h
    ·obtain ⟨q, hq, rfl⟩ := Option.map_eq_some_iff.1 h
     obtain ⟨h1, h2, h3, h4⟩ := qtS_rng (d :: r) q (fun x hx => hr x (List.mem_cons_of_mem _ hx)) hq
     refine ⟨fun x hx => ?_, by simp at h2 ⊢; omega, by simp at h3 ⊢; omega, by simp⟩
     rcases List.mem_cons.1 hx with rfl | hx
     ·exact hr _ List.mem_cons_self
     ·exact h1 x hx
/-! ### quoted texts -/
def qtP (i : Nat) (b : List Int) : Option (Nat × List Int) → ByteArray × Int × Bool
 | none => (⟨#[]⟩, 0, false)
 | some p => (bstr (b ++ p.2), ((i + p.1 : Nat) : Int), true)
theorem qtP_map1 (i : Nat) (b : List Int) (c : Int) (o : Option (Nat × List Int)) (k : Nat) : qtP i b (o.map fun p => (p.1 + k, c :: p.2)) = qtP (i + k) (b ++ [c]) o := by
 cases o with
 | none => rfl
 | some p => simp only [Option.map_some, qtP, List.append_assoc, List.singleton_append]; rw [Nat.add_right_comm, Nat.add_assoc i p.1 k]
theorem qtS_cons (c : Int) (r : List Int) : qtS (c :: r) = if c = 34 then some (1, []) else if c = 10 then none else if c = 92 then (match r with
   | [] => none
   | d :: r2 => if d = 34 ∨ d = 92 then (qtS r2).map fun p => (p.1 + 2, d :: p.2) else none)
  else (qtS r).map fun p => (p.1 + 1, c :: p.2) := by
 cases r with
 | nil => conv => lhs; rw [qtS]
 | cons d r => conv => lhs; rw [qtS]
theorem dropG {xs : List Int} {i : Nat} (h : i < xs.length) : xs.drop i = xs[i] :: xs.drop (i + 1) := List.drop_eq_getElem_cons h
section
variable {N : Nat} {s : ByteArray} (hs : s.size ≤ 1099511627776)
include hs
omit hs in
theorem wb_eq (b9 : Bool) (b10 : List Int) (c : Int) (hb : b10.length ≤ 1099511627776) : m_strings_Builder_WriteByte (b9, b10) c = some (none, (true, b10 ++ [c])) := by
 rw [m_strings_Builder_WriteByte, m_bcc1, Option.bind_some, chk_pos]
 have : ([c] : List Int).length = 1 := rfl
 simp only [this, maxLen]
 omega
theorem lex_meant_L1 : ∀ (f i : Nat) (b9 : Bool) (b10 : List Int), (∀ x ∈ b10, 0 ≤ x ∧ x < 256) → s.size + 2 ≤ f + i → b10.length ≤ i → i ≤ s.size + 1 →
  m_lex_meant_L1 N s f b9 b10 (i : Int) = some (qtP i b10 (qtS ((sints s).drop i)))
 | 0, i, b9, b10, hb, h1, h2, h3 => by
  have hl := sints_len s
  omega
 | f + 1, i, b9, b10, hb, h1, h2, h3 => by
  have hl := sints_len s
  rw [m_lex_meant_L1.eq_2]
  by_cases hk : i < s.size
  ·have hm := sints_rng (List.getElem_mem (show i < (sints s).length by omega))
   rw [if_pos (decide_eq_true (by omega)), bat_lt hk, Option.bind_some, dropG (by omega), qtS_cons]
   generalize hx : (sints s)[i]'(by omega) = x at hm
   by_cases c34 : x = 34
   ·rw [if_pos (decide_eq_true c34), if_pos c34, m_bstr1, chk_pos hb, Option.bind_some, w64 (by omega), qtP, List.append_nil]; rfl
   ·rw [if_neg (nd c34), if_neg c34]
    by_cases c10 : x = 10
    ·rw [if_pos (decide_eq_true c10), if_pos c10]; rfl
    ·rw [if_neg (nd c10), if_neg c10]
     by_cases c92 : x = 92
     ·rw [if_pos (decide_eq_true c92), if_pos c92, w64 (by omega), show (i : Int) + 1 = ((i + 1 : Nat) : Int) by omega]
      by_cases he : i + 1 = s.size
      ·rw [if_pos (decide_eq_true (by omega)), m_lex_meant_J3, if_pos rfl, List.drop_eq_nil_of_le (by omega)]; rfl
      ·have hm2 := sints_rng (List.getElem_mem (show i + 1 < (sints s).length by omega))
       rw [if_neg (nd (by omega)), bat_lt (by omega), Option.bind_some, dropG (by omega)]
       generalize hx2 : (sints s)[i + 1]'(by omega) = y at hm2
       have good : m_lex_meant_J3 s b9 b10 (i : Int) (m_lex_meant_L1 N s f) false = some (qtP (i + 2) (b10 ++ [y]) (qtS ((sints s).drop (i + 2)))) := by
        rw [m_lex_meant_J3, if_neg (by decide), m_lex_meant_J2, w64 (x := (i : Int) + 1) (by omega), show (i : Int) + 1 = ((i + 1 : Nat) : Int) by omega, bat_lt (by omega), Option.bind_some, hx2, wb_eq _ _ _ (by omega), Option.bind_some, m_lex_meant_J1, w64 (by omega), show ((i + 1 : Nat) : Int) + 1 = ((i + 2 : Nat) : Int) by omega]
        refine lex_meant_L1 f (i + 2) _ _ (fun z hz => ?_) (by omega) (by rw [List.length_append]; simp; omega) (by omega)
        rcases List.mem_append.1 hz with hz | hz
        ·exact hb z hz
        ·rw [List.mem_singleton.1 hz]; exact hm2
       show _ = some (qtP i b10 (if y = 34 ∨ y = 92 then (qtS ((sints s).drop (i + 1 + 1))).map fun p => (p.1 + 2, y :: p.2) else none))
       by_cases d34 : y = 34
       ·rw [if_neg (by rw [decide_eq_true d34]; decide), if_pos (.inl d34), qtP_map1]; exact good
       ·rw [if_pos (by rw [decide_eq_false d34]; decide), Option.bind_some]
        by_cases d92 : y = 92
        ·rw [decide_eq_true d92, if_pos (.inr d92), qtP_map1]; exact good
        ·rw [decide_eq_false d92, m_lex_meant_J3, if_pos (by decide), if_neg (by rintro (h | h); exact d34 h; exact d92 h)]; rfl
     ·rw [if_neg (nd c92), if_neg c92, wb_eq _ _ _ (by omega), Option.bind_some, m_lex_meant_J1, w64 (by omega), show (i : Int) + 1 = ((i + 1 : Nat) : Int) by omega, qtP_map1]
      refine lex_meant_L1 f (i + 1) _ _ (fun z hz => ?_) (by omega) (by rw [List.length_append]; simp; omega) (by omega)
      rcases List.mem_append.1 hz with hz | hz
      ·exact hb z hz
      ·rw [List.mem_singleton.1 hz]; exact hm
  ·rw [if_neg (nd (by omega)), List.drop_eq_nil_of_le (by omega)]; rfl
theorem lex_meant_eq (hN : s.size < N) : m_lex_meant N s = some (qtP 1 [] (qtS ((sints s).drop 1))) := by
 rw [m_lex_meant]
 exact lex_meant_L1 hs N 1 false [] (by simp) (by omega) (by simp) (by omega)
def qtR (i : Nat) (b : ByteArray) : Option (Nat × List Int) → Int × ByteArray × Bool
 | none => (0, ⟨#[]⟩, false)
 | some p => (((i + p.1 : Nat) : Int), b ++ bstr p.2, true)
omit hs in
theorem qtR_map1 (i : Nat) (b : ByteArray) (c : Int) (o : Option (Nat × List Int)) (k : Nat) : qtR i b (o.map fun p => (p.1 + k, c :: p.2)) = qtR (i + k) (b ++ bstr [c]) o := by
 cases o with
 | none => rfl
 | some p => simp only [Option.map_some, qtR]; rw [Nat.add_right_comm, Nat.add_assoc i p.1 k, ByteArray.append_assoc, ← bstr_app]; rfl
omit hs in
theorem ext_one {i : Nat} (h : i < s.size) : s.extract i (i + 1) = bstr [(sints s)[i]'(by rw [sints_len]; exact h)] := by
 have hl := sints_len s
 apply ext_eq
 rw [sints_extract, sints_bstr, List.take_add_one, List.getElem?_eq_getElem (by omega), List.drop_append, List.drop_eq_nil_of_le (by rw [List.length_take]; omega)]
 ·rw [List.length_take, Nat.min_eq_left (by omega), Nat.sub_self]; rfl
 ·intro x hx
  rw [List.mem_singleton.1 hx]
  exact sints_rng (List.getElem_mem _)
theorem ref_quoted_L1 : ∀ (f i : Nat) (out : ByteArray), s.size + 2 ≤ f + i → out.size ≤ i → i ≤ s.size + 1 →
  m_r06_quoted_L1 N s f out (i : Int) = some (qtR i out (qtS ((sints s).drop i)))
 | 0, i, out, h1, h2, h3 => by omega
 | f + 1, i, out, h1, h2, h3 => by
  have hl := sints_len s
  rw [m_r06_quoted_L1.eq_2]
  by_cases hk : i < s.size
  ·rw [if_pos (decide_eq_true (by omega)), bat_lt hk, Option.bind_some, dropG (by omega), qtS_cons]
   have ho := ext_one hk
   generalize hx : (sints s)[i]'(by omega) = x at ho
   by_cases c34 : x = 34
   ·rw [if_pos (decide_eq_true c34), if_pos c34, w64 (by omega), qtR]
    show _ = some (_, out ++ ByteArray.empty, true)
    rw [ByteArray.append_empty]; rfl
   ·rw [if_neg (nd c34), if_neg c34]
    by_cases c10 : x = 10
    ·rw [if_pos (decide_eq_true c10), if_pos c10]; rfl
    ·rw [if_neg (nd c10), if_neg c10]
     by_cases c92 : x = 92
     ·rw [if_pos (decide_eq_true c92), if_pos c92, w64 (by omega), show (i : Int) + 1 = ((i + 1 : Nat) : Int) by omega, ref_at_eq, Option.bind_some, Option.bind_some]
      by_cases he : i + 1 < s.size
      ·have ho2 := ext_one he
       rw [dropG (by omega), List.getElem?_eq_getElem (by omega)]
       generalize hx2 : (sints s)[i + 1]'(by omega) = y at ho2
       have good : m_r06_quoted_J3 s out (i : Int) (m_r06_quoted_L1 N s f) false = some (qtR (i + 2) (out ++ bstr [y]) (qtS ((sints s).drop (i + 2)))) := by
        rw [m_r06_quoted_J3, if_neg (by decide), m_r06_quoted_J2, w64 (x := (i : Int) + 1) (by omega), show (i : Int) + 1 = ((i + 1 : Nat) : Int) by omega, w64 (by omega), show ((i + 1 : Nat) : Int) + 1 = ((i + 2 : Nat) : Int) by omega, chk_pos (by omega)]
        rw [show Int.toNat ((i + 1 : Nat) : Int) = i + 1 from rfl, show Int.toNat ((i + 2 : Nat) : Int) = i + 1 + 1 from rfl, ho2]
        have h1' : (bstr [y]).size = 1 := rfl
        rw [chk_pos (by rw [h1']; simp only [maxLen]; omega), m_r06_quoted_J1, w64 (by omega), show ((i + 1 : Nat) : Int) + 1 = ((i + 2 : Nat) : Int) by omega]
        exact ref_quoted_L1 f (i + 2) _ (by omega) (by rw [ByteArray.size_append, h1']; omega) (by omega)
       show _ = some (qtR i out (if y = 34 ∨ y = 92 then (qtS ((sints s).drop (i + 1 + 1))).map fun p => (p.1 + 2, y :: p.2) else none))
       show (if (!decide (y = 34)) = true then m_r06_quoted_J3 s out (i : Int) (m_r06_quoted_L1 N s f) (!decide (y = 92)) else _) = _
       by_cases d34 : y = 34
       ·rw [if_neg (by rw [decide_eq_true d34]; decide), if_pos (.inl d34), qtR_map1]; exact good
       ·rw [if_pos (by rw [decide_eq_false d34]; decide)]
        by_cases d92 : y = 92
        ·rw [decide_eq_true d92, if_pos (.inr d92), qtR_map1]; exact good
        ·rw [decide_eq_false d92, m_r06_quoted_J3, if_pos (by decide), if_neg (by rintro (h | h); exact d34 h; exact d92 h)]; rfl
      ·rw [List.getElem?_eq_none (by omega), List.drop_eq_nil_of_le (by omega)]
       rfl
     ·rw [if_neg (nd c92), if_neg c92, w64 (by omega), show (i : Int) + 1 = ((i + 1 : Nat) : Int) by omega, chk_pos (by omega), show Int.toNat (i : Int) = i from rfl, show Int.toNat ((i + 1 : Nat) : Int) = i + 1 from rfl, ho]
      have h1' : (bstr [x]).size = 1 := rfl
      rw [chk_pos (by rw [h1']; simp only [maxLen]; omega), m_r06_quoted_J1, w64 (by omega), show (i : Int) + 1 = ((i + 1 : Nat) : Int) by omega, qtR_map1]
      exact ref_quoted_L1 f (i + 1) _ (by omega) (by rw [ByteArray.size_append, h1']; omega) (by omega)
  ·rw [if_neg (nd (by omega)), List.drop_eq_nil_of_le (by omega)]; rfl
theorem ref_quoted_eq (hN : s.size < N) : m_r06_quoted N s = some (qtR 1 ⟨#[]⟩ (qtS ((sints s).drop 1))) := by
 rw [m_r06_quoted]
 exact ref_quoted_L1 hs N 1 ⟨#[]⟩ (by omega) (by show (0 : Nat) ≤ 1; omega) (by omega)
end
def nlB (c : Int) : Bool := !decide (c = 10)
def sgnL : List Int := [123, 125, 40, 41, 91, 93, 44, 59, 124, 61, 43, 45, 42, 47]
def sgnB (c : Int) : Bool := decide (c ∈ sgnL)
def blkB (c : Int) : Bool := decide (c ∈ ([32, 9, 10, 13] : List Int))
def clsS : List Int → Option Nat
 | [] => none
 | c :: r => if c = 42 ∧ r[0]? = some 47 then some 2 else (clsS r).map (· + 1)
def skS (xs : List Int) : Option Nat :=
 if xs[0]? = some 47 ∧ xs[1]? = some 47 then some (runS nlB xs)
 else if xs[0]? = some 47 ∧ xs[1]? = some 42 then (clsS (xs.drop 2)).map (· + 2)
 else if blkB (xs.headD 0) = true then some 1 else some 0
theorem clsS_le : ∀ (xs : List Int) (k : Nat), clsS xs = some k → k ≤ xs.length ∧ 2 ≤ k
 | [], k, h => by rw [clsS] at h; cases h
 | c :: r, k, h => by
  rw [clsS] at h
  split at h
  ·rename_i hc
   cases h
   have := get_lt hc.2
   simp; omega
  ·obtain ⟨q, hq, rfl⟩ := Option.map_eq_some_iff.1 h
   have := clsS_le r q hq
   simp; omega
theorem run_one {B : Int → Bool} {xs : List Int} {i : Nat} {c : Int} (h : xs[i]? = some c) (hB : B c = true) : runS B (xs.drop i) = runS B (xs.drop (i + 1)) + 1 := by
 have hlt := get_lt h
 rw [dropG hlt, runS_cons, if_pos]
 rw [List.getElem?_eq_getElem hlt] at h
 rw [Option.some.inj h]; exact hB
theorem skS_le {xs : List Int} {k : Nat} (h : skS xs = some k) (h0 : xs ≠ []) : k ≤ xs.length := by
 rw [skS] at h
 split at h
 ·cases h; exact runS_le _ _
 ·split at h
  ·rename_i h1
   obtain ⟨q, hq, rfl⟩ := Option.map_eq_some_iff.1 h
   have := clsS_le _ _ hq
   rw [List.length_drop] at this
   have := get_lt h1.2
   omega
  ·have : 0 < xs.length := List.length_pos_iff.2 h0
   split at h <;> cases h <;> omega
theorem ref_blank_eq (c : Int) : m_r06_blank c = some (blkB c) := by
 by_cases h1 : c = 32 <;> by_cases h2 : c = 9 <;> by_cases h3 : c = 10 <;> by_cases h4 : c = 13 <;> simp [m_r06_blank, m_r06_blank_J1, blkB, *]
theorem ref_sign_L1 {N : Nat} (c : Int) : ∀ (f i : Nat), 15 ≤ f + i → i ≤ 14 → m_r06_sign_L1 N c f (i : Int) = some (decide (c ∈ sgnL.drop i))
 | 0, i, h1, h2 => by omega
 | f + 1, i, h1, h2 => by
  rw [m_r06_sign_L1.eq_2]
  by_cases hk : i < 14
  ·have hs : (⟨#[123, 125, 40, 41, 91, 93, 44, 59, 124, 61, 43, 45, 42, 47]⟩ : ByteArray).size = 14 := rfl
   have hq : sints (⟨#[123, 125, 40, 41, 91, 93, 44, 59, 124, 61, 43, 45, 42, 47]⟩ : ByteArray) = sgnL := rfl
   have hl : sgnL.length = 14 := rfl
   rw [if_pos (decide_eq_true (by omega)), bat_sints, hq, List.getElem?_eq_getElem (by omega), Option.bind_some, dropG (xs := sgnL) (i := i) (by omega)]
   by_cases he : sgnL[i]'(by omega) = c
   ·rw [if_pos (decide_eq_true he), he, decide_eq_true List.mem_cons_self]
   ·rw [if_neg (nd he), w64 (by omega), show (i : Int) + 1 = ((i + 1 : Nat) : Int) by omega, ref_sign_L1 c f (i + 1) (by omega) (by omega)]
    congr 1
    refine decide_eq_decide.2 ⟨fun h => List.mem_cons_of_mem _ h, fun h => ?_⟩
    rcases List.mem_cons.1 h with h | h
    ·exact absurd h.symm he
    ·exact h
  ·rw [if_neg (nd (by omega))]
   have : i = 14 := by omega
   subst this
   rfl
theorem ref_sign_eq {N : Nat} (c : Int) (hN : 15 ≤ N) : m_r06_sign N c = some (sgnB c) := by
 rw [m_r06_sign]
 exact ref_sign_L1 c N 0 (by omega) (by omega)
section
variable {N : Nat} {s : ByteArray} (hs : s.size ≤ 1099511627776)
include hs
theorem ref_skip_nl (h1 : (sints s)[1]? = some 47) : ∀ (f i : Nat), s.size < f + i → i ≤ s.size → m_r06_skipped_L1 N s f (i : Int) = some (((i + runS nlB ((sints s).drop i) : Nat)) : Int)
 | 0, i, h2, h3 => by omega
 | f + 1, i, h2, h3 => by
  have hl := sints_len s
  have b1 : bat? s 1 = some 47 := by rw [show (1 : Int) = ((1 : Nat) : Int) from rfl, bat_sints, h1]
  rw [m_r06_skipped_L1.eq_2, b1]
  by_cases hk : i < s.size
  ·rw [if_pos (decide_eq_true (by omega)), Option.bind_some, if_pos (decide_eq_true rfl), bat_lt hk, Option.bind_some, dropG (by omega), runS_cons]
   generalize hx : (sints s)[i]'(by omega) = x
   by_cases hc : x = 10
   ·rw [m_r06_skipped_J5, if_pos (decide_eq_true hc), if_neg (by rw [nlB, decide_eq_true hc]; decide), Nat.add_zero]
   ·rw [m_r06_skipped_J5, if_neg (nd hc), if_pos (by rw [nlB, decide_eq_false hc]; rfl), m_r06_skipped_J3, b1, Option.bind_some, if_neg (by decide), m_r06_skipped_J4, if_neg (by decide), m_r06_skipped_J2, w64 (by omega), show (i : Int) + 1 = ((i + 1 : Nat) : Int) by omega, ref_skip_nl h1 f (i + 1) (by omega) (by omega)]
    congr 2; omega
  ·rw [if_neg (nd (by omega)), Option.bind_some, if_pos (decide_eq_true rfl), List.drop_eq_nil_of_le (by omega)]
   show some (s.size : Int) = some (((i + 0 : Nat)) : Int)
   congr 1; omega
theorem ref_skip_cl (h1 : (sints s)[1]? = some 42) : ∀ (f i : Nat), s.size < f + i → i ≤ s.size → m_r06_skipped_L1 N s f (i : Int) = some (match clsS ((sints s).drop i) with | none => -1 | some k => ((i + k : Nat) : Int))
 | 0, i, h2, h3 => by omega
 | f + 1, i, h2, h3 => by
  have hl := sints_len s
  have b1 : bat? s 1 = some 42 := by rw [show (1 : Int) = ((1 : Nat) : Int) from rfl, bat_sints, h1]
  rw [m_r06_skipped_L1.eq_2, b1]
  by_cases hk : i < s.size
  ·rw [if_pos (decide_eq_true (by omega)), Option.bind_some, if_neg (by decide), m_r06_skipped_J5, if_neg (by decide), m_r06_skipped_J3, b1, Option.bind_some, if_pos (decide_eq_true rfl), bat_lt hk, Option.bind_some, dropG (by omega), clsS]
   have hg : (((sints s).drop (i + 1))[0]?) = (sints s)[i + 1]? := by rw [List.getElem?_drop, Nat.add_zero]
   rw [hg]
   have step : m_r06_skipped_J4 (i : Int) (m_r06_skipped_L1 N s f) false = some (match (clsS ((sints s).drop (i + 1))).map (· + 1) with | none => -1 | some k => ((i + k : Nat) : Int)) := by
    rw [m_r06_skipped_J4, if_neg (by decide), m_r06_skipped_J2, w64 (by omega), show (i : Int) + 1 = ((i + 1 : Nat) : Int) by omega, ref_skip_cl h1 f (i + 1) (by omega) (by omega)]
    cases clsS ((sints s).drop (i + 1)) with
    | none => rfl
    | some k => simp only [Option.map_some]; congr 2; omega
   generalize hx : (sints s)[i]'(by omega) = x
   by_cases hc : x = 42
   ·rw [if_pos (decide_eq_true hc), w64 (by omega), show (i : Int) + 1 = ((i + 1 : Nat) : Int) by omega, atchk s (i + 1) 47 (m_r06_skipped_J4 (i : Int) _) (by decide)]
    by_cases hd : (sints s)[i + 1]? = some 47
    ·rw [decide_eq_true hd, if_pos ⟨hc, hd⟩, m_r06_skipped_J4, if_pos rfl, w64 (by omega)]; rfl
    ·rw [decide_eq_false hd, if_neg (fun e => hd e.2)]; exact step
   ·rw [if_neg (nd hc), if_neg (fun e => hc e.1)]; exact step
  ·rw [if_neg (nd (by omega)), Option.bind_some, if_neg (by decide), List.drop_eq_nil_of_le (by omega)]; rfl
def skI : Option Nat → Int
 | none => -1
 | some k => (k : Int)
theorem ref_skipped_eq (hN : s.size < N) (h0 : 1 ≤ s.size) : m_r06_skipped N s = some (skI (skS (sints s))) := by
 have hl := sints_len s
 have e0 : (sints s)[0]? = some ((sints s).headD 0) := by
  cases hc : sints s with
  | nil => rw [hc] at hl; simp at hl; omega
  | cons a l => rfl
 have hb0 : bat? s 0 = some ((sints s).headD 0) := (bat_sints s 0).trans e0
 rw [m_r06_skipped, hb0, Option.bind_some, ref_blank_eq, Option.bind_some, Option.bind_some, skS, e0]
 generalize hx : (sints s).headD 0 = x
 rw [hx] at e0
 by_cases hb : blkB x = true
 ·have hn : x ≠ 47 := fun e => by subst e; exact absurd hb (by decide)
  rw [if_pos hb, if_neg (fun e => hn (Option.some.inj e.1)), if_neg (fun e => hn (Option.some.inj e.1)), if_pos hb]; rfl
 ·rw [if_neg hb, if_neg hb]
  by_cases h47 : x = 47
  ·rw [if_neg (by rw [decide_eq_true h47]; decide), show (1 : Int) = ((1 : Nat) : Int) from rfl, ref_at_eq, Option.bind_some, Option.bind_some]
   by_cases a47 : (sints s)[1]? = some 47
   ·rw [if_neg (by rw [a47]; decide), if_pos ⟨by rw [h47], a47⟩, m_r06_skipped_J6, if_neg (by decide), m_r06_skipped_J1]
    have := get_lt a47
    have h3 := ref_skip_nl (N := N) hs a47 N 2 (by omega) (by omega)
    rw [show (2 : Int) = ((2 : Nat) : Int) from rfl, h3, skI]
    have r0 := run_one (B := nlB) (i := 0) e0 (by rw [h47]; rfl)
    have r1 := run_one (B := nlB) (i := 1) a47 rfl
    rw [List.drop_zero] at r0
    change runS nlB (sints s) = runS nlB ((sints s).drop 1) + 1 at r0
    change runS nlB ((sints s).drop 1) = runS nlB ((sints s).drop 2) + 1 at r1
    congr 2; omega
   ·rw [if_pos (by rw [decide_eq_false (fun e => a47 ((getD_iff (by decide)).1 e))]; rfl), if_neg (fun e => a47 e.2)]
    by_cases a42 : (sints s)[1]? = some 42
    ·rw [if_pos ⟨by rw [h47], a42⟩, m_r06_skipped_J6, if_neg (by rw [a42]; decide), m_r06_skipped_J1]
     have := get_lt a42
     have h3 := ref_skip_cl (N := N) hs a42 N 2 (by omega) (by omega)
     rw [show (2 : Int) = ((2 : Nat) : Int) from rfl, h3]
     cases clsS ((sints s).drop 2) with
     | none => rfl
     | some k => simp only [Option.map_some, skI]; congr 2; omega
    ·rw [if_neg (fun e => a42 e.2), m_r06_skipped_J6, if_pos (by rw [decide_eq_false (fun e => a42 ((getD_iff (by decide)).1 e))]; rfl)]; rfl
  ·rw [if_pos (by rw [decide_eq_false h47]; rfl), if_neg (fun e => h47 (Option.some.inj e.1)), if_neg (fun e => h47 (Option.some.inj e.1)), m_r06_skipped_J6, if_pos rfl]; rfl
end
def tokS (s : ByteArray) : Nat × (Int × ByteArray) × (Int × ByteArray) :=
 if letB ((sints s).headD 0) = true then (if 64 < runS wrdB (sints s) then (0, (0, ⟨#[]⟩), (20, s.extract 0 (runS wrdB (sints s)))) else (runS wrdB (sints s), (1, s.extract 0 (runS wrdB (sints s))), (0, ⟨#[]⟩)))
 else if digB ((sints s).headD 0) = true then (if bigS (expS (sints s) (intS (sints s))).2 = true ∨ letB (((sints s)[(expS (sints s) (intS (sints s))).1]?).getD 0) = true
   then (0, (0, ⟨#[]⟩), (22, s.extract 0 ((expS (sints s) (intS (sints s))).1 + runS wrdB ((sints s).drop (expS (sints s) (intS (sints s))).1))))
   else ((expS (sints s) (intS (sints s))).1, (2, s.extract 0 (expS (sints s) (intS (sints s))).1), (0, ⟨#[]⟩)))
 else if (sints s).headD 0 = 34 then (match qtS ((sints s).drop 1) with | none => (0, (0, ⟨#[]⟩), (21, ⟨#[34]⟩)) | some p => (1 + p.1, (3, bstr p.2), (0, ⟨#[]⟩)))
 else if sgnB ((sints s).headD 0) = true then (1, (4, s.extract 0 1), (0, ⟨#[]⟩)) else (0, (0, ⟨#[]⟩), (20, s.extract 0 1))
theorem head_at {s : ByteArray} (h : 1 ≤ s.size) : bat? s 0 = some ((sints s).headD 0) := by
 have hl := sints_len s
 rw [show (0 : Int) = ((0 : Nat) : Int) from rfl, bat_sints]
 cases hc : sints s with
 | nil => rw [hc] at hl; simp at hl; omega
 | cons a l => rfl
section
variable {N : Nat} {s : ByteArray} (hs : s.size ≤ 1099511627776) (hN : s.size < N) (hN2 : 15 ≤ N) (h0 : 1 ≤ s.size)
include hs hN hN2 h0
theorem ref_take_none (h : skS (sints s) = none) : m_r06_Take N s = some (0, (0, ⟨#[]⟩, 0, 0), (21, 0, 0, ⟨#[47, 42]⟩)) := by
 rw [m_r06_Take, ref_skipped_eq hs hN h0, Option.bind_some, h, if_pos (by decide)]
theorem ref_take_skip {k : Nat} (h : skS (sints s) = some k) (hk : 0 < k) : m_r06_Take N s = some ((k : Int), (0, ⟨#[]⟩, 0, 0), (0, 0, 0, ⟨#[]⟩)) := by
 rw [m_r06_Take, ref_skipped_eq hs hN h0, Option.bind_some, h, skI, if_neg (nd (by omega)), if_pos (decide_eq_true (by omega))]
theorem ref_take_tok (h : skS (sints s) = some 0) : m_r06_Take N s = some (((tokS s).1 : Int), ((tokS s).2.1.1, (tokS s).2.1.2, 0, 0), ((tokS s).2.2.1, 0, 0, (tokS s).2.2.2)) := by
 have hl := sints_len s
 have hw := ref_word_eq (N := N) hs (at_ := 0) (by omega) hN
 rw [List.drop_zero] at hw
 have hr := runS_le wrdB (sints s)
 rw [m_r06_Take, ref_skipped_eq hs hN h0, Option.bind_some, h, skI, if_neg (nd (by omega)), if_neg (nd (by omega)), head_at h0, Option.bind_some, Option.bind_some, Option.bind_some, Option.bind_some, ref_letter_eq, Option.bind_some, ref_digit_eq, Option.bind_some, tokS]
 by_cases c1 : letB ((sints s).headD 0) = true
 ·rw [if_pos c1, if_pos c1, show (0 : Int) = ((0 : Nat) : Int) from rfl, hw, Option.bind_some]
  by_cases c2 : 64 < runS wrdB (sints s)
  ·rw [if_pos (decide_eq_true (by omega)), if_pos c2, chk_pos (by omega)]; rfl
  ·rw [if_neg (nd (by omega)), if_neg c2, chk_pos (by omega)]; rfl
 ·rw [if_neg c1, if_neg c1]
  by_cases c2 : digB ((sints s).headD 0) = true
  ·rw [if_pos c2, if_pos c2, ref_number_eq hs hN, Option.bind_some]
   have hn := expS_le (sints s) (intS_le (sints s))
   generalize expS (sints s) (intS (sints s)) = e at hn
   have e1 : m_r06_Take_J1 N s ((e.1 : Int), bigS e.2) true = some (0, (0, ⟨#[]⟩, 0, 0), (22, 0, 0, s.extract 0 (e.1 + runS wrdB ((sints s).drop e.1)))) := by
    have hr2 := run_drop_le wrdB (sints s) e.1
    rw [m_r06_Take_J1, if_pos rfl, ref_word_eq hs (by omega) hN, Option.bind_some, w64 (by omega), chk_pos (by omega)]; rfl
   have e2 : m_r06_Take_J1 N s ((e.1 : Int), bigS e.2) false = some ((e.1 : Int), (2, s.extract 0 e.1, 0, 0), (0, 0, 0, ⟨#[]⟩)) := by
    rw [m_r06_Take_J1, if_neg (by decide), chk_pos (by omega)]; rfl
   by_cases c3 : bigS e.2 = true
   ·rw [if_pos c3, if_pos (.inl c3)]; exact e1
   ·rw [if_neg c3, ref_at_eq, Option.bind_some, ref_letter_eq, Option.bind_some]
    by_cases c4 : letB (((sints s)[e.1]?).getD 0) = true
    ·rw [c4, if_pos (.inr rfl)]; exact e1
    ·rw [Bool.eq_false_iff.2 c4, if_neg (by rintro (h | h); exact c3 h; cases h)]; exact e2
  ·rw [if_neg c2, if_neg c2]
   by_cases c3 : (sints s).headD 0 = 34
   ·rw [if_pos (decide_eq_true c3), if_pos c3, ref_quoted_eq hs hN, Option.bind_some]
    cases qtS ((sints s).drop 1) with
    | none => rw [qtR, if_pos (by decide)]; rfl
    | some p =>
     rw [qtR, if_neg (by show ¬ (!true) = true; decide)]
     show some (_, (3, (⟨#[]⟩ : ByteArray) ++ bstr p.2, 0, 0), _) = _
     rw [nil_appB]
   ·rw [if_neg (nd c3), if_neg c3, ref_sign_eq _ hN2, Option.bind_some]
    by_cases c4 : sgnB ((sints s).headD 0) = true
    ·rw [if_pos c4, if_pos c4, chk_pos (by omega)]; rfl
    ·rw [if_neg c4, if_neg c4, chk_pos (by omega)]; rfl
end
/-! ### what the library finds -/
def bi (b : UInt8) : Int := (b.toNat : Int)
theorem bi_inj {a b : UInt8} : bi a = bi b ↔ a = b := ⟨fun h => UInt8.toNat_inj.1 (Int.ofNat.inj h), fun h => by rw [h]⟩
theorem pref2_eq (s : ByteArray) (a b : UInt8) : m_pref s ⟨#[a, b]⟩ = some (decide ((sints s)[0]? = some (bi a) ∧ (sints s)[1]? = some (bi b))) := by
 rw [m_pref, sints]
 show some (Lib.hasPrefix s.data.toList [a, b]) = _
 generalize s.data.toList = L
 congr 1
 match L with
 | [] => rfl
 | [x] => simp [Lib.hasPrefix, List.isPrefixOf]
 | x :: y :: r =>
  simp only [Lib.hasPrefix, List.isPrefixOf, List.map_cons, List.getElem?_cons_zero, List.getElem?_cons_succ, Option.some.injEq, Bool.and_true]
  rw [Bool.eq_iff_iff, Bool.and_eq_true, beq_iff_eq, beq_iff_eq, decide_eq_true_iff]
  exact ⟨fun h => ⟨by rw [h.1]; rfl, by rw [h.2]; rfl⟩, fun h => ⟨(bi_inj.1 h.1).symm, (bi_inj.1 h.2).symm⟩⟩
theorem pref_sl (s : ByteArray) : m_pref s ⟨#[47, 47]⟩ = some (decide ((sints s)[0]? = some 47 ∧ (sints s)[1]? = some 47)) := pref2_eq s 47 47
theorem pref_st (s : ByteArray) : m_pref s ⟨#[47, 42]⟩ = some (decide ((sints s)[0]? = some 47 ∧ (sints s)[1]? = some 42)) := pref2_eq s 47 42
theorem idx_nl : ∀ (L : List UInt8), Lib.indexByte L 10 = if runS nlB (L.map bi) < L.length then ((runS nlB (L.map bi) : Nat) : Int) else -1
 | [] => rfl
 | b :: L => by
  rw [Lib.indexByte, List.map_cons, runS_cons, idx_nl L, List.length_cons]
  by_cases h : b = 10
  ·subst h; rw [if_pos (by decide), if_neg (show ¬ nlB (bi 10) = true by decide), if_pos (by omega)]; rfl
  ·have hb : nlB (bi b) = true := by
    rw [nlB, decide_eq_false]
    ·rfl
    ·intro e; exact h (bi_inj.1 (e.trans (show (10 : Int) = bi 10 from rfl)))
   rw [if_neg (by simpa using h), if_pos hb]
   by_cases hr : runS nlB (L.map bi) < L.length
   ·rw [if_pos hr, if_neg (by simp <;> omega), if_pos (show runS nlB (L.map bi) + 1 < L.length + 1 by omega)]; omega
   ·rw [if_neg hr, if_pos (by decide), if_neg (show ¬ runS nlB (L.map bi) + 1 < L.length + 1 by omega)]
theorem idxb_nl (s : ByteArray) : m_idxb s 10 = some (if runS nlB (sints s) < s.size then ((runS nlB (sints s) : Nat) : Int) else -1) := by
 rw [m_idxb]
 have := idx_nl s.data.toList
 rw [Array.length_toList] at this
 exact congrArg some this
theorem idx_mem : ∀ (L : List UInt8) (b : UInt8), decide (0 ≤ Lib.indexByte L b) = decide (b ∈ L)
 | [], b => by simp [Lib.indexByte]
 | c :: L, b => by
  rw [Lib.indexByte]
  by_cases h : c = b
  ·subst h; simp
  ·have ih := idx_mem L b
   have hg := Lib.indexByte_ge L b
   rw [if_neg (by simpa using h)]
   have h2 : (b ∈ c :: L) ↔ b ∈ L := ⟨fun e => (List.mem_cons.1 e).resolve_left (fun e => h e.symm), List.mem_cons_of_mem _⟩
   rw [decide_eq_decide.2 h2, ← ih]
   by_cases e : Lib.indexByte L b = -1
   ·rw [if_pos (by rw [e]; rfl), e]
   ·rw [if_neg (by simpa using e)]
    exact decide_eq_decide.2 ⟨fun _ => by omega, fun _ => by omega⟩
theorem idxb_mem (s : ByteArray) (c : Int) (hc : 0 ≤ c ∧ c < 256) : ∃ r, m_idxb s c = some r ∧ decide (0 ≤ r) = decide (c ∈ sints s) := by
 refine ⟨_, rfl, ?_⟩
 rw [idx_mem]
 have e : bi c.toNat.toUInt8 = c := by
  show ((c.toNat.toUInt8.toNat : Nat) : Int) = c
  rw [UInt8.toNat_ofNat']
  omega
 refine decide_eq_decide.2 ⟨fun h => ?_, fun h => ?_⟩
 ·rw [← e]; exact List.mem_map_of_mem h
 ·obtain ⟨b, hb, h2⟩ := List.mem_map.1 h
  have : b = c.toNat.toUInt8 := bi_inj.1 (by rw [e]; exact h2)
  rwa [← this]
theorem idxb_blk (c : Int) (hc : 0 ≤ c ∧ c < 256) : ∃ r, m_idxb ⟨#[32, 9, 10, 13]⟩ c = some r ∧ decide (0 ≤ r) = blkB c := idxb_mem _ c hc
theorem idxb_sgn (c : Int) (hc : 0 ≤ c ∧ c < 256) : ∃ r, m_idxb ⟨#[123, 125, 40, 41, 91, 93, 44, 59, 124, 61, 43, 45, 42, 47]⟩ c = some r ∧ decide (0 ≤ r) = sgnB c := idxb_mem _ c hc
theorem head_rng (s : ByteArray) : 0 ≤ (sints s).headD 0 ∧ (sints s).headD 0 < 256 := by
 cases hc : sints s with
 | nil => decide
 | cons c l => exact sints_rng (s := s) (by rw [hc]; exact List.mem_cons_self)
theorem idx_cls : ∀ (L : List UInt8), Lib.index L [42, 47] = match clsS (L.map bi) with | none => -1 | some k => (k : Int) - 2
 | [] => rfl
 | b :: L => by
  rw [Lib.index, List.map_cons, clsS, idx_cls L]
  have hp : (([42, 47] : List UInt8).isPrefixOf (b :: L) = true) ↔ (bi b = 42 ∧ (L.map bi)[0]? = some 47) := by
   cases L with
   | nil => simp [List.isPrefixOf]
   | cons d r =>
    simp only [List.isPrefixOf, List.map_cons, List.getElem?_cons_zero, Option.some.injEq, Bool.and_true]
    rw [Bool.and_eq_true, beq_iff_eq, beq_iff_eq]
    exact ⟨fun h => ⟨by rw [← h.1]; rfl, by rw [← h.2]; rfl⟩, fun h => ⟨(bi_inj.1 (h.1.trans (show (42 : Int) = bi 42 from rfl))).symm, (bi_inj.1 (h.2.trans (show (47 : Int) = bi 47 from rfl))).symm⟩⟩
  by_cases h : bi b = 42 ∧ (L.map bi)[0]? = some 47
  ·rw [if_pos (hp.2 h), if_pos h]; rfl
  ·rw [if_neg (fun e => h (hp.1 e)), if_neg h]
   cases hc : clsS (L.map bi) with
   | none => rfl
   | some k =>
    have := clsS_le _ _ hc
    simp only [Option.map_some]
    rw [if_neg (by simp; omega)]
    show (k : Int) - 2 + 1 = ((k + 1 : Nat) : Int) - 2
    omega
theorem idx_eq (s : ByteArray) (hs : s.size ≤ 33554432) : m_idx s ⟨#[42, 47]⟩ = some (match clsS (sints s) with | none => -1 | some k => (k : Int) - 2) := by
 rw [m_idx, chk_pos (by omega)]
 exact congrArg some (idx_cls _)
/-! ### passing over bytes -/
def plc (xs : List Int) (p : Int × Int) : Int × Int := xs.foldl (fun p x => if x = 10 then (p.1 + 1, 1) else (p.1, p.2 + 1)) p
theorem plc_cons (x : Int) (xs : List Int) (p : Int × Int) : plc (x :: xs) p = plc xs (if x = 10 then (p.1 + 1, 1) else (p.1, p.2 + 1)) := rfl
theorem plc_app (a b : List Int) (p : Int × Int) : plc (a ++ b) p = plc b (plc a p) := List.foldl_append
def Bd (p : Int × Int) (k : Nat) : Prop := 0 ≤ p.1 ∧ p.1 ≤ (k : Int) + 1 ∧ 0 ≤ p.2 ∧ p.2 ≤ (k : Int) + 1
theorem Bd.plc : ∀ {xs : List Int} {p : Int × Int} {k : Nat}, Bd p k → Bd (plc xs p) (k + xs.length)
 | [], p, k, h => h
 | x :: xs, p, k, h => by
  rw [plc_cons, List.length_cons, show k + (xs.length + 1) = (k + 1) + xs.length by omega]
  refine Bd.plc ?_
  obtain ⟨h1, h2, h3, h4⟩ := h
  split <;> refine ⟨?_, ?_, ?_, ?_⟩ <;> dsimp only <;> omega
theorem pass_L1 (n : Int) (text : ByteArray) (a : Int) : ∀ (xs : List Int) (p : Int × Int) (k : Nat), Bd p k → k + xs.length ≤ 1099511627776 →
  m_lex_reader_pass_L1 n xs text a p.1 p.2 = some (text, IntKind.i64.wrap (a + n), (plc xs p).1, (plc xs p).2)
 | [], p, k, _, _ => by rw [m_lex_reader_pass_L1.eq_1]; rfl
 | x :: xs, p, k, hb, hk => by
  rw [List.length_cons] at hk
  have hb1 : Bd (if x = 10 then (p.1 + 1, 1) else (p.1, p.2 + 1)) (k + 1) := Bd.plc (xs := [x]) hb
  have ih := pass_L1 n text a xs _ (k + 1) hb1 (by omega)
  obtain ⟨h1, h2, h3, h4⟩ := hb
  rw [m_lex_reader_pass_L1.eq_2, plc_cons, ← ih]
  by_cases h : x = 10
  ·rw [if_pos (decide_eq_true h), if_pos h, m_lex_reader_pass_J1, w64 (by omega)]
  ·rw [if_neg (nd h), if_neg h, m_lex_reader_pass_J1, w64 (by omega)]
section
variable {N : Nat} {t : ByteArray} (ht : t.size ≤ 33554432)
include ht
theorem pass_eq {a n : Nat} {p : Int × Int} (hb : Bd p a) (hn : a + n ≤ t.size) :
  m_lex_reader_pass (t, (a : Int), p.1, p.2) (n : Int) = some (t, ((a + n : Nat) : Int), (plc (((sints t).drop a).take n) p).1, (plc (((sints t).drop a).take n) p).2) := by
 have e : sints (t.extract a (a + n)) = ((sints t).drop a).take n := by rw [sints_extract, List.drop_take]; congr 1; omega
 have hz : (t.extract a (a + n)).size = n := by rw [← sints_len, e, List.length_take, List.length_drop, sints_len]; omega
 rw [m_lex_reader_pass]
 dsimp only
 rw [w64 (by omega), chk_pos (by omega), show Int.toNat (a : Int) = a from rfl, show Int.toNat ((a : Int) + (n : Int)) = a + n by omega, chk_pos (by rw [hz]; simp only [maxLen]; omega), e]
 rw [pass_L1 (n : Int) t (a : Int) _ p a hb (by rw [← e, sints_len, hz]; omega), w64 (by omega)]
 rfl
end
inductive BlR (t : ByteArray) : Nat → Int × Int → Bool → Nat → Int × Int → Prop
 | fin {a p} : t.size = a → BlR t a p true a p
 | done {a p} : a < t.size → skS ((sints t).drop a) = some 0 → BlR t a p true a p
 | opn {a p} : a < t.size → skS ((sints t).drop a) = none → BlR t a p false a p
 | skip {a p k ok a' p'} : a < t.size → skS ((sints t).drop a) = some k → 0 < k → a + k ≤ t.size → BlR t (a + k) (plc (((sints t).drop a).take k) p) ok a' p' → BlR t a p ok a' p'
theorem BlR.le {t : ByteArray} {a a' : Nat} {p p' : Int × Int} {ok : Bool} (h : BlR t a p ok a' p') : a' ≤ t.size ∧ a ≤ a' ∧ (Bd p a → Bd p' a') := by
 induction h with
 | fin h => exact ⟨by omega, Nat.le_refl _, id⟩
 | done h _ => exact ⟨by omega, Nat.le_refl _, id⟩
 | opn h _ => exact ⟨by omega, Nat.le_refl _, id⟩
 | @skip a p k ok a' p' h1 h2 h3 h4 _ ih =>
  refine ⟨ih.1, by omega, fun hb => ih.2.2 ?_⟩
  have := hb.plc (xs := ((sints t).drop a).take k)
  rwa [List.length_take, List.length_drop, sints_len, Nat.min_eq_left (by omega)] at this
section
variable {N : Nat} {t : ByteArray} (ht : t.size ≤ 33554432)
include ht
theorem blanks_L1 {a a' : Nat} {p p' : Int × Int} {ok : Bool} (h : BlR t a p ok a' p') (hb : Bd p a) : ∀ f, t.size < f + a → m_lex_reader_blanks_L1 N f t (a : Int) p.1 p.2 = some (ok, (t, (a' : Int), p'.1, p'.2)) := by
 induction h with
 | @fin a p h =>
  intro f hf
  obtain ⟨f, rfl⟩ : ∃ g, f = g + 1 := ⟨f - 1, by omega⟩
  have he : t.extract a t.size = ⟨#[]⟩ := ext_eq (by rw [sints_suf, List.drop_eq_nil_of_le (by rw [sints_len]; omega)]; rfl)
  rw [m_lex_reader_blanks_L1.eq_2, chk_pos (by omega), show Int.toNat (a : Int) = a from rfl, show Int.toNat (t.size : Int) = t.size from rfl, if_pos (decide_eq_true he)]
 | @done a p h1 h2 =>
  intro f hf
  obtain ⟨f, rfl⟩ : ∃ g, f = g + 1 := ⟨f - 1, by omega⟩
  have hl := sints_len (t.extract a t.size)
  have hx := sints_suf t a
  have hz : (t.extract a t.size).size = t.size - a := by rw [← hl, hx, List.length_drop, sints_len]
  rw [m_lex_reader_blanks_L1.eq_2, chk_pos (by omega), show Int.toNat (a : Int) = a from rfl, show Int.toNat (t.size : Int) = t.size from rfl, if_neg (nd (fun e => by rw [e] at hz; change (0 : Nat) = _ at hz; omega))]
  rw [← hx] at h2
  have hm := idxb_blk ((sints (t.extract a t.size)).headD 0) (head_rng _)
  obtain ⟨r, hr, hr2⟩ := hm
  rw [skS] at h2
  split at h2
  ·rename_i h47
   have h0 := run_one (B := nlB) (i := 0) h47.1 rfl
   rw [List.drop_zero] at h0
   have := Option.some.inj h2
   omega
  ·rename_i h47
   rw [pref_sl, Option.bind_some, if_neg (nd h47)]
   split at h2
   ·obtain ⟨k, _, e⟩ := Option.map_eq_some_iff.1 h2
    omega
   ·rename_i h42
    rw [pref_st, Option.bind_some, if_neg (nd h42), head_at (by omega), Option.bind_some, hr, Option.bind_some]
    split at h2
    ·cases h2
    ·rename_i hbk
     rw [hr2, if_neg (fun e => hbk e)]
 | @opn a p h1 h2 =>
  intro f hf
  obtain ⟨f, rfl⟩ : ∃ g, f = g + 1 := ⟨f - 1, by omega⟩
  have hl := sints_len (t.extract a t.size)
  have hx := sints_suf t a
  have hz : (t.extract a t.size).size = t.size - a := by rw [← hl, hx, List.length_drop, sints_len]
  rw [m_lex_reader_blanks_L1.eq_2, chk_pos (by omega), show Int.toNat (a : Int) = a from rfl, show Int.toNat (t.size : Int) = t.size from rfl, if_neg (nd (fun e => by rw [e] at hz; change (0 : Nat) = _ at hz; omega))]
  rw [← hx] at h2
  rw [skS] at h2
  split at h2
  ·cases h2
  ·rename_i h47
   rw [pref_sl, Option.bind_some, if_neg (nd h47)]
   split at h2
   ·rename_i h42
    have := get_lt h42.2
    have hq : sints ((t.extract a t.size).extract 2 (t.extract a t.size).size) = (sints (t.extract a t.size)).drop 2 := sints_suf _ _
    have hq2 : ((t.extract a t.size).extract 2 (t.extract a t.size).size).size ≤ 33554432 := by rw [ByteArray.size_extract]; omega
    rw [pref_st, Option.bind_some, if_pos (decide_eq_true h42), chk_pos (by omega), show Int.toNat 2 = 2 from rfl, show Int.toNat ((t.extract a t.size).size : Int) = (t.extract a t.size).size from rfl, idx_eq _ hq2, hq, Option.map_eq_none_iff.1 h2, Option.bind_some, if_pos (by decide)]
   ·split at h2 <;> cases h2
 | @skip a p k ok a' p' h1 h2 h3 h4 _ ih =>
  intro f hf
  obtain ⟨f, rfl⟩ : ∃ g, f = g + 1 := ⟨f - 1, by omega⟩
  have hl := sints_len (t.extract a t.size)
  have hx := sints_suf t a
  have hz : (t.extract a t.size).size = t.size - a := by rw [← hl, hx, List.length_drop, sints_len]
  have hb1 : Bd (plc (((sints t).drop a).take k) p) (a + k) := by
   have := hb.plc (xs := ((sints t).drop a).take k)
   rwa [List.length_take, List.length_drop, sints_len, Nat.min_eq_left (by omega)] at this
  have hp := pass_eq ht hb h4
  have hgo := ih hb1 f (by omega)
  rw [m_lex_reader_blanks_L1.eq_2, chk_pos (by omega), show Int.toNat (a : Int) = a from rfl, show Int.toNat (t.size : Int) = t.size from rfl, if_neg (nd (fun e => by rw [e] at hz; change (0 : Nat) = _ at hz; omega))]
  rw [← hx] at h2
  have hm := idxb_blk ((sints (t.extract a t.size)).headD 0) (head_rng _)
  obtain ⟨r, hr, hr2⟩ := hm
  rw [skS] at h2
  split at h2
  ·rename_i h47
   have hk := Option.some.inj h2
   rw [pref_sl, Option.bind_some, if_pos (decide_eq_true h47), idxb_nl, Option.bind_some, hk]
   by_cases hlt : k < (t.extract a t.size).size
   ·rw [if_pos hlt, if_neg (nd (by omega)), m_lex_reader_blanks_J1, hp, Option.bind_some]; exact hgo
   ·rw [if_neg hlt, if_pos (by decide), m_lex_reader_blanks_J1, show (t.extract a t.size).size = k by omega, hp, Option.bind_some]; exact hgo
  ·rename_i h47
   rw [pref_sl, Option.bind_some, if_neg (nd h47)]
   split at h2
   ·rename_i h42
    have := get_lt h42.2
    obtain ⟨q, hq1, rfl⟩ := Option.map_eq_some_iff.1 h2
    have hq2' := clsS_le _ _ hq1
    have hq : sints ((t.extract a t.size).extract 2 (t.extract a t.size).size) = (sints (t.extract a t.size)).drop 2 := sints_suf _ _
    have hq2 : ((t.extract a t.size).extract 2 (t.extract a t.size).size).size ≤ 33554432 := by rw [ByteArray.size_extract]; omega
    have hi : m_idx ((t.extract a t.size).extract 2 (t.extract a t.size).size) ⟨#[42, 47]⟩ = some ((q : Int) - 2) := by rw [idx_eq _ hq2, hq, hq1]
    rw [pref_st, Option.bind_some, if_pos (decide_eq_true h42), chk_pos (by omega), show Int.toNat 2 = 2 from rfl, show Int.toNat ((t.extract a t.size).size : Int) = (t.extract a t.size).size from rfl, hi, Option.bind_some, if_neg (nd (by omega)), w64 (by omega), show (q : Int) - 2 + 4 = ((q + 2 : Nat) : Int) by omega, hp, Option.bind_some]
    exact hgo
   ·rename_i h42
    rw [pref_st, Option.bind_some, if_neg (nd h42), head_at (by omega), Option.bind_some, hr, Option.bind_some]
    split at h2
    ·rename_i hbk
     have := Option.some.inj h2
     subst this
     rw [hr2, if_pos hbk, show (1 : Int) = ((1 : Nat) : Int) from rfl, hp, Option.bind_some]; exact hgo
    ·have := Option.some.inj h2; omega
theorem blanks_eq {a a' : Nat} {p p' : Int × Int} {ok : Bool} (h : BlR t a p ok a' p') (hb : Bd p a) (hN : t.size < N) : m_lex_reader_blanks N (t, (a : Int), p.1, p.2) = some (ok, (t, (a' : Int), p'.1, p'.2)) := by
 rw [m_lex_reader_blanks]
 exact blanks_L1 ht h hb N (by omega)
end
theorem head_get : ∀ (xs : List Int) (h : 0 < xs.length), xs[0]'h = xs.headD 0
 | c :: r, _ => rfl
theorem intS_ge (xs : List Int) : runS digB xs ≤ intS xs := by
 rw [intS]; split <;> omega
theorem expK_ge (xs : List Int) (n : Nat) : n < expK xs n := by
 rw [expK]; split <;> omega
theorem expS_ge (xs : List Int) (n : Nat) : n ≤ (expS xs n).1 := by
 rw [expS]
 split
 ·have := expK_ge xs n
  show n ≤ expK xs n + _
  omega
 ·exact Nat.le_refl _
theorem head_run {B : Int → Bool} {xs : List Int} (h : B (xs.headD 0) = true) (h0 : xs ≠ []) : 1 ≤ runS B xs := by
 cases xs with
 | nil => exact absurd rfl h0
 | cons c r => rw [runS_cons, if_pos (show B c = true from h)]; omega
theorem tokS_le {s : ByteArray} (h0 : 1 ≤ s.size) (hc : (tokS s).2.2.1 = 0) : (tokS s).1 ≤ s.size ∧ 1 ≤ (tokS s).1 ∧ (tokS s).2.1.1 ≠ 0 := by
 have hl := sints_len s
 have hne : sints s ≠ [] := fun e => by rw [e] at hl; simp at hl; omega
 rw [tokS] at hc ⊢
 split at hc
 ·rename_i c1
  have := head_run c1 hne
  have := runS_le wrdB (sints s)
  have h2 : 1 ≤ runS wrdB (sints s) := head_run (by rw [wrdB, c1]; rfl) hne
  rw [if_pos c1]
  split at hc
  ·cases hc
  ·rename_i c2
   rw [if_neg c2]; exact ⟨by show runS _ _ ≤ _; omega, h2, by show (1 : Int) ≠ 0; decide⟩
 ·rename_i c1
  rw [if_neg c1]
  split at hc
  ·rename_i c2
   rw [if_pos c2]
   have h1 := head_run c2 hne
   have h2 := intS_ge (sints s)
   have h3 := expS_ge (sints s) (intS (sints s))
   have h4 := expS_le (sints s) (intS_le (sints s))
   split at hc
   ·cases hc
   ·rename_i c3
    rw [if_neg c3]; exact ⟨by show (expS _ _).1 ≤ _; omega, by show 1 ≤ (expS _ _).1; omega, by show (2 : Int) ≠ 0; decide⟩
  ·rename_i c2
   rw [if_neg c2]
   split at hc
   ·rename_i c3
    rw [if_pos c3]
    cases hq : qtS ((sints s).drop 1) with
    | none => rw [hq] at hc; cases hc
    | some p =>
     have := qtS_rng _ p (fun x hx => sints_rng (List.mem_of_mem_drop hx)) hq
     rw [List.length_drop] at this
     exact ⟨by show 1 + p.1 ≤ _; omega, by show 1 ≤ 1 + p.1; omega, by show (3 : Int) ≠ 0; decide⟩
   ·rename_i c3
    rw [if_neg c3]
    split at hc
    ·rename_i c4
     rw [if_pos c4]; exact ⟨h0, Nat.le_refl 1, by show (4 : Int) ≠ 0; decide⟩
    ·cases hc
def nxR (t : ByteArray) (a : Nat) (p : Int × Int) (T : Nat × (Int × ByteArray) × (Int × ByteArray)) : (Int × ByteArray × Int × Int) × (Option (Int × Int × Int × ByteArray)) × (ByteArray × Int × Int × Int) :=
 if T.2.2.1 = 0 then ((T.2.1.1, T.2.1.2, p.1, p.2), none, (t, ((a + T.1 : Nat) : Int), (plc (((sints t).drop a).take T.1) p).1, (plc (((sints t).drop a).take T.1) p).2))
 else ((0, ⟨#[]⟩, 0, 0), some (T.2.2.1, p.1, p.2, T.2.2.2), (t, (a : Int), p.1, p.2))
section
variable {N : Nat} {t : ByteArray} (ht : t.size ≤ 33554432) (hN : t.size < N)
include ht hN
theorem next_opn {a a' : Nat} {p p' : Int × Int} (h : BlR t a p false a' p') (hb : Bd p a) :
  m_lex_reader_next N (t, (a : Int), p.1, p.2) = some ((0, ⟨#[]⟩, 0, 0), some (21, p'.1, p'.2, ⟨#[47, 42]⟩), (t, (a' : Int), p'.1, p'.2)) := by
 rw [m_lex_reader_next]
 dsimp only
 rw [blanks_eq ht h hb hN, Option.bind_some, if_pos (by rfl), m_fail, Option.bind_some]
theorem next_fin {a : Nat} {p p' : Int × Int} (h : BlR t a p true t.size p') (hb : Bd p a) :
  m_lex_reader_next N (t, (a : Int), p.1, p.2) = some ((0, ⟨#[]⟩, p'.1, p'.2), none, (t, (t.size : Int), p'.1, p'.2)) := by
 have he : t.extract t.size t.size = ⟨#[]⟩ := ext_eq (by rw [sints_suf, List.drop_eq_nil_of_le (by rw [sints_len]; omega)]; rfl)
 rw [m_lex_reader_next]
 dsimp only
 rw [blanks_eq ht h hb hN, Option.bind_some]
 dsimp only
 rw [if_neg (by decide), chk_pos (by omega), show Int.toNat (t.size : Int) = t.size from rfl, if_pos (decide_eq_true he)]
theorem next_tok {a a' : Nat} {p p' : Int × Int} (h : BlR t a p true a' p') (hb : Bd p a) (hlt : a' < t.size) :
  m_lex_reader_next N (t, (a : Int), p.1, p.2) = some (nxR t a' p' (tokS (t.extract a' t.size))) := by
 have hb' := h.le.2.2 hb
 have hz : (t.extract a' t.size).size = t.size - a' := by rw [ByteArray.size_extract]; omega
 rw [m_lex_reader_next]
 dsimp only
 rw [blanks_eq ht h hb hN, Option.bind_some]
 dsimp only
 rw [if_neg (by decide), chk_pos (by omega), show Int.toNat (a' : Int) = a' from rfl, show Int.toNat (t.size : Int) = t.size from rfl, if_neg (nd (fun e => by rw [e] at hz; change (0 : Nat) = _ at hz; omega))]
 have hs : (t.extract a' t.size).size ≤ 1099511627776 := by omega
 have hNs : (t.extract a' t.size).size < N := by omega
 have h1s : 1 ≤ (t.extract a' t.size).size := by omega
 have hx : (t.extract a' t.size) = t.extract (Int.toNat (a' : Int)) (Int.toNat (t.size : Int)) := rfl
 have hJ : ∀ (k : Nat) (kd : Int) (tx : ByteArray), a' + k ≤ t.size → m_lex_reader_next_J1 (true, (t, (a' : Int), p'.1, p'.2)) 0 (⟨#[]⟩) 0 0 kd tx p'.1 p'.2 (k : Int) = some (nxR t a' p' (k, (kd, tx), (0, ⟨#[]⟩))) := by
  intro k kd tx hk
  rw [m_lex_reader_next_J1]
  dsimp only
  rw [pass_eq ht hb' hk, Option.bind_some, nxR, if_pos rfl]
 have hB : ∀ (k : Nat) (kd c : Int) (tx w : ByteArray), c ≠ 0 → some (nxR t a' p' (k, (kd, tx), (c, w))) = some ((0, ⟨#[]⟩, 0, 0), some (c, p'.1, p'.2, w), (t, (a' : Int), p'.1, p'.2)) := by
  intro k kd c tx w hc
  rw [nxR, if_neg hc]
 have hJ2 : ∀ (b : Bool) (n : Nat) (D : ByteArray), a' + n ≤ t.size → m_lex_reader_next_J2 N (true, (t, (a' : Int), p'.1, p'.2)) ((n : Int), D) b = some (nxR t a' p' (if b = true then (0, (0, ⟨#[]⟩), (22, (t.extract a' t.size).extract 0 (n + runS wrdB ((sints (t.extract a' t.size)).drop n)))) else (n, (2, (t.extract a' t.size).extract 0 n), (0, ⟨#[]⟩)))) := by
  intro b n D hn
  rw [m_lex_reader_next_J2]
  dsimp only
  rw [← hx]
  cases b with
  | true =>
   have := run_drop_le wrdB (sints (t.extract a' t.size)) n
   rw [sints_len] at this
   rw [if_pos rfl, if_pos rfl, lex_run_eq hs (by omega) hNs, Option.bind_some, w64 (by omega), chk_pos (by omega), m_fail, Option.bind_some, hB _ _ _ _ _ (by decide)]; rfl
  | false => rw [if_neg (by decide), if_neg (by decide)]; exact hJ n _ _ hn
 generalize t.extract a' t.size = s at hz hs hNs h1s hJ2
 have hl := sints_len s
 have hw : m_lex_run_v2f36 N s 0 = some ((runS wrdB (sints s) : Nat) : Int) := lex_run_eq (N := N) hs (at_ := 0) (by omega) hNs
 have hr := runS_le wrdB (sints s)
 rw [head_at h1s, Option.bind_some, Option.bind_some, Option.bind_some, Option.bind_some, lex_letter_eq, Option.bind_some, lex_digit_eq, Option.bind_some]
 rw [tokS]
 by_cases c1 : letB ((sints s).headD 0) = true
 ·rw [if_pos c1, if_pos c1, hw, Option.bind_some]
  by_cases c2 : 64 < runS wrdB (sints s)
  ·rw [if_pos c2, chk_pos (by omega), if_pos (decide_eq_true (by omega)), chk_pos (by omega), m_fail, Option.bind_some, hB _ _ _ _ _ (by decide)]; rfl
  ·rw [if_neg c2, chk_pos (by omega), if_neg (nd (by omega))]
   exact hJ _ _ _ (by omega)
 ·rw [if_neg c1, if_neg c1]
  by_cases c2 : digB ((sints s).headD 0) = true
  ·rw [if_pos c2, if_pos c2]
   obtain ⟨D, hD, hD2⟩ := lex_number_eq hs hNs
   have hn := expS_le (sints s) (intS_le (sints s))
   have hdg := expS_digs (sints s) (intS (sints s))
   rw [hD, Option.bind_some]
   generalize expS (sints s) (intS (sints s)) = e at hn hdg hD2
   have hlg : m_lex_large D = some (bigS e.2) := by rw [lex_large_eq (by rw [hD2]; exact hdg), hD2]
   rw [chk_pos (by dsimp only; omega), hlg, Option.bind_some]
   dsimp only
   by_cases c3 : bigS e.2 = true
   ·rw [if_pos c3, if_pos (.inl c3), hJ2 true e.1 D (by omega), if_pos rfl]
   ·rw [if_neg c3]
    have hc4 : (if (decide ((e.1 : Int) < (s.size : Int))) = true then ((bat? s (e.1 : Int)).bind fun e_155 => (m_lex_letter e_155).bind fun r_157 => m_lex_reader_next_J2 N (true, (t, (a' : Int), p'.1, p'.2)) ((e.1 : Int), D) r_157) else (m_lex_reader_next_J2 N (true, (t, (a' : Int), p'.1, p'.2)) ((e.1 : Int), D) false)) = m_lex_reader_next_J2 N (true, (t, (a' : Int), p'.1, p'.2)) ((e.1 : Int), D) (letB (((sints s)[e.1]?).getD 0)) := by
     by_cases hlt2 : e.1 < s.size
     ·rw [if_pos (decide_eq_true (by omega)), bat_lt hlt2, Option.bind_some, lex_letter_eq, Option.bind_some, List.getElem?_eq_getElem (by omega)]; rfl
     ·rw [if_neg (nd (by omega)), List.getElem?_eq_none (by omega)]; rfl
    refine hc4.trans ?_
    rw [hJ2 _ e.1 D (by omega)]
    by_cases c4 : letB (((sints s)[e.1]?).getD 0) = true
    ·rw [if_pos c4, if_pos (.inr c4)]
    ·rw [if_neg c4, if_neg (by rintro (h | h); exact c3 h; exact c4 h)]
  ·rw [if_neg c2, if_neg c2]
   by_cases c3 : (sints s).headD 0 = 34
   ·rw [if_pos (decide_eq_true c3), if_pos c3, lex_meant_eq hs hNs, Option.bind_some]
    cases hq : qtS ((sints s).drop 1) with
    | none =>
     have h34 : s.extract 0 1 = ⟨#[34]⟩ := by
      have := ext_one (s := s) (i := 0) (by omega)
      rw [this]
      have e0 : (sints s)[0]'(by omega) = 34 := by
       rw [← c3]; exact head_get _ _
      rw [e0]; rfl
     rw [qtP, if_pos (by rfl), chk_pos (by omega), m_fail, Option.bind_some, hB _ _ _ _ _ (by decide), show Int.toNat 0 = 0 from rfl, show Int.toNat 1 = 1 from rfl, h34]
    | some q =>
     have := qtS_rng _ q (fun x hx => sints_rng (List.mem_of_mem_drop hx)) hq
     rw [List.length_drop] at this
     rw [qtP]
     dsimp only
     rw [if_neg (by decide), List.nil_append]
     exact hJ (1 + q.1) _ _ (by omega)
   ·rw [if_neg (nd c3), if_neg c3]
    obtain ⟨r, hr1, hr2⟩ := idxb_sgn ((sints s).headD 0) (head_rng s)
    rw [hr1, Option.bind_some, hr2]
    by_cases c4 : sgnB ((sints s).headD 0) = true
    ·rw [if_pos c4, if_pos c4, chk_pos (by omega)]
     exact hJ 1 _ _ (by omega)
    ·rw [if_neg c4, if_neg c4, chk_pos (by omega), m_fail, Option.bind_some, hB _ _ _ _ _ (by decide)]; rfl
end
abbrev TokV := Int × ByteArray × Int × Int
abbrev FltV := Int × Int × Int × ByteArray
inductive LexR (t : ByteArray) : Nat → Int × Int → List TokV → Option FltV → Prop
 | fin {a p p'} : BlR t a p true t.size p' → LexR t a p [(0, ⟨#[]⟩, p'.1, p'.2)] none
 | opn {a p a' p'} : BlR t a p false a' p' → LexR t a p [] (some (21, p'.1, p'.2, ⟨#[47, 42]⟩))
 | bad {a p a' p'} : BlR t a p true a' p' → a' < t.size → (tokS (t.extract a' t.size)).2.2.1 ≠ 0 → LexR t a p [] (some ((tokS (t.extract a' t.size)).2.2.1, p'.1, p'.2, (tokS (t.extract a' t.size)).2.2.2))
 | tok {a p a' p' l f} : BlR t a p true a' p' → a' < t.size → (tokS (t.extract a' t.size)).2.2.1 = 0 →
   LexR t (a' + (tokS (t.extract a' t.size)).1) (plc (((sints t).drop a').take (tokS (t.extract a' t.size)).1) p') l f →
   LexR t a p (((tokS (t.extract a' t.size)).2.1.1, (tokS (t.extract a' t.size)).2.1.2, p'.1, p'.2) :: l) f
theorem blR_ex (t : ByteArray) : ∀ (m a : Nat) (p : Int × Int), t.size - a ≤ m → a ≤ t.size → ∃ ok a' p', BlR t a p ok a' p'
 | 0, a, p, h1, h2 => ⟨_, _, _, .fin (by omega)⟩
 | m + 1, a, p, h1, h2 => by
  rcases Nat.lt_or_ge a t.size with h | h
  ·cases hk : skS ((sints t).drop a) with
   | none => exact ⟨_, _, _, .opn h hk⟩
   | some k =>
    cases k with
    | zero => exact ⟨_, _, _, .done h hk⟩
    | succ k =>
     have hl := skS_le hk (fun e => by have := congrArg List.length e; rw [List.length_drop, sints_len] at this; simp at this; omega)
     rw [List.length_drop, sints_len] at hl
     obtain ⟨ok, a', p', h3⟩ := blR_ex t m (a + (k + 1)) (plc (((sints t).drop a).take (k + 1)) p) (by omega) (by omega)
     exact ⟨ok, a', p', .skip h hk (by omega) (by omega) h3⟩
  ·exact ⟨_, _, _, .fin (by omega)⟩
theorem lexR_ex (t : ByteArray) : ∀ (m a : Nat) (p : Int × Int), t.size - a ≤ m → a ≤ t.size → ∃ l f, LexR t a p l f := by
  intro m
  induction m with
  | zero =>
    intro a p h1 h2
    exact ⟨_, _, .fin (p' := p) (by have : a = t.size := by omega
                                    subst this; exact .fin rfl)⟩
  | succ m ih =>
    intro a p h1 h2
    obtain ⟨ok, a', p', hb⟩ := blR_ex t (t.size - a) a p (Nat.le_refl _) h2
    have hl := hb.le
    cases ok with
    | false => exact ⟨_, _, .opn hb⟩
    | true =>
      rcases Nat.lt_or_ge a' t.size with h | h
      · by_cases hc : (tokS (t.extract a' t.size)).2.2.1 = 0
        · have hz : (t.extract a' t.size).size = t.size - a' := by rw [ByteArray.size_extract]; omega
          have := tokS_le (s := t.extract a' t.size) (by omega) hc
          obtain ⟨l, f, h3⟩ := ih (a' + (tokS (t.extract a' t.size)).1) (plc (((sints t).drop a').take (tokS (t.extract a' t.size)).1) p') (by omega) (by omega)
          exact ⟨_, _, .tok hb h hc h3⟩
        · exact ⟨_, _, .bad hb h hc⟩
      · have : a' = t.size := by omega
        subst this
        exact ⟨_, _, .fin hb⟩
theorem LexR.facts {t : ByteArray} {a : Nat} {p : Int × Int} {l : List TokV} {f : Option FltV} (h : LexR t a p l f) (ha : a ≤ t.size) :
  l.length ≤ t.size - a + 1 ∧ (f = none → ∃ x, l.getLast? = some x ∧ x.1 = 0) ∧ (∀ e, f = some e → e.1 ≠ 0) := by
 induction h with
 | fin h => exact ⟨by simp, fun _ => ⟨_, rfl, rfl⟩, fun e he => by cases he⟩
 | opn h => exact ⟨by simp, fun e => (by cases e), fun e he => (by cases he; show (21 : Int) ≠ 0; decide)⟩
 | bad h h1 h2 => exact ⟨by simp, fun e => (by cases e), fun e he => (by cases he; exact h2)⟩
 | @tok a p a' p' l f h1 h2 h3 h4 ih =>
  have hz : (t.extract a' t.size).size = t.size - a' := by rw [ByteArray.size_extract]; omega
  have hk := tokS_le (s := t.extract a' t.size) (by omega) h3
  have hle := h1.le
  obtain ⟨i1, i2, i3⟩ := ih (by omega)
  refine ⟨by rw [List.length_cons]; omega, fun e => ?_, i3⟩
  obtain ⟨x, hx, hx2⟩ := i2 e
  refine ⟨x, ?_, hx2⟩
  rw [List.getLast?_cons, hx]; rfl
theorem place_L1 {N : Nat} {t : ByteArray} (ht : t.size ≤ 33554432) {a : Nat} (ha : a ≤ t.size) : ∀ (f i : Nat) (p : Int × Int), Bd p i → a < f + i → i ≤ a →
  m_r06_Place_L1 N t (a : Int) f p.1 p.2 (i : Int) = some (plc (((sints t).drop i).take (a - i)) p)
 | 0, i, p, hb, h1, h2 => by omega
 | f + 1, i, p, hb, h1, h2 => by
  have hl := sints_len t
  rw [m_r06_Place_L1.eq_2]
  by_cases hk : i < a
  ·rw [if_pos (decide_eq_true (by omega)), bat_lt (by omega), Option.bind_some, dropG (by omega), show a - i = (a - (i + 1)) + 1 by omega, List.take_succ_cons, plc_cons]
   have hb1 : Bd (if (sints t)[i]'(by omega) = 10 then (p.1 + 1, 1) else (p.1, p.2 + 1)) (i + 1) := Bd.plc (xs := [(sints t)[i]'(by omega)]) hb
   have ih := place_L1 (N := N) ht ha f (i + 1) _ hb1 (by omega) (by omega)
   rw [← ih]
   obtain ⟨b1, b2, b3, b4⟩ := hb
   by_cases h : (sints t)[i]'(by omega) = 10
   ·rw [if_pos (decide_eq_true h), if_pos h, m_r06_Place_J1, w64 (by omega), w64 (by omega)]; rfl
   ·rw [if_neg (nd h), if_neg h, m_r06_Place_J1, w64 (by omega), w64 (by omega)]; rfl
  ·have : i = a := by omega
   subst this
   rw [if_neg (nd (by omega)), Nat.sub_self, List.take_zero]; rfl
theorem place_eq {N : Nat} {t : ByteArray} (ht : t.size ≤ 33554432) (hN : t.size < N) {a : Nat} (ha : a ≤ t.size) : m_r06_Place N t (a : Int) = some (plc ((sints t).take a) (1, 1)) := by
 have := place_L1 (N := N) ht ha N 0 (1, 1) ⟨by decide, by decide, by decide, by decide⟩ (by omega) (by omega)
 rw [List.drop_zero] at this
 rw [m_r06_Place]
 exact this
theorem plc_take (xs : List Int) (a k : Nat) (p : Int × Int) : plc ((xs.drop a).take k) (plc (xs.take a) p) = plc (xs.take (a + k)) p := by
 rw [← plc_app, List.take_add]
section
variable {N : Nat} {t : ByteArray} (ht : t.size ≤ 33554432) (hN : t.size < N) (hN2 : 15 ≤ N)
include ht hN hN2
theorem all_step {a : Nat} (ha : a < t.size) (f : Nat) (v1 v2 v3 : Int) (v4 : ByteArray) (acc : List TokV) (hacc : acc.length ≤ 33554432) :
  m_r06_All_L1 N t (f + 1) v1 v2 v3 v4 acc (a : Int) = match skS ((sints t).drop a) with
   | none => some (acc, (21, (plc ((sints t).take a) (1, 1)).1, (plc ((sints t).take a) (1, 1)).2, ⟨#[47, 42]⟩))
   | some (k + 1) => m_r06_All_L1 N t f v1 v2 v3 v4 acc ((a + (k + 1) : Nat) : Int)
   | some 0 => if (tokS (t.extract a t.size)).2.2.1 = 0 then m_r06_All_L1 N t f v1 v2 v3 v4 (acc ++ [((tokS (t.extract a t.size)).2.1.1, (tokS (t.extract a t.size)).2.1.2, (plc ((sints t).take a) (1, 1)).1, (plc ((sints t).take a) (1, 1)).2)]) ((a + (tokS (t.extract a t.size)).1 : Nat) : Int)
    else some (acc, ((tokS (t.extract a t.size)).2.2.1, (plc ((sints t).take a) (1, 1)).1, (plc ((sints t).take a) (1, 1)).2, (tokS (t.extract a t.size)).2.2.2)) := by
 have hx := sints_suf t a
 have hz : (t.extract a t.size).size = t.size - a := by rw [ByteArray.size_extract]; omega
 have ht1 : ∀ (n : Nat) (kd : Int) (tx : ByteArray), n ≤ t.size → ∀ acc' , m_r06_All_J1 v1 v2 v3 v4 (a : Int) (m_r06_All_L1 N t f) ((n : Int), (kd, tx, 0, 0), (0, 0, 0, ⟨#[]⟩)) acc' = m_r06_All_L1 N t f v1 v2 v3 v4 acc' ((a + n : Nat) : Int) := by
  intro n kd tx hn acc'
  rw [m_r06_All_J1]
  dsimp only
  rw [w64 (by omega)]; rfl
 rw [m_r06_All_L1.eq_2, if_pos (decide_eq_true (by omega)), chk_pos (by omega), show Int.toNat (a : Int) = a from rfl, show Int.toNat (t.size : Int) = t.size from rfl, place_eq ht hN (by omega), ← hx]
 cases hk : skS (sints (t.extract a t.size)) with
 | none => rw [ref_take_none (N := N) (by omega) (by omega) hN2 (by omega) hk, Option.bind_some, Option.bind_some, if_pos (by rfl)]
 | some k =>
  have hkl := skS_le hk (fun e => by have := congrArg List.length e; rw [sints_len] at this; simp at this; omega)
  rw [sints_len] at hkl
  cases k with
  | succ k =>
   rw [ref_take_skip (N := N) (by omega) (by omega) hN2 (by omega) hk (by omega), Option.bind_some, Option.bind_some, if_neg (by show ¬ (!decide ((0 : Int) = 0)) = true; decide), if_neg (by show ¬ (!decide ((0 : Int) = 0)) = true; decide), ht1 (k + 1) 0 ⟨#[]⟩ (by omega)]
  | zero =>
   have hle := tokS_le (s := t.extract a t.size) (by omega)
   rw [ref_take_tok (N := N) (by omega) (by omega) hN2 (by omega) hk, Option.bind_some, Option.bind_some]
   dsimp only
   generalize tokS (t.extract a t.size) = T at hle
   by_cases hc : T.2.2.1 = 0
   ·obtain ⟨h1, h2, h3⟩ := hle hc
    rw [if_neg (by rw [decide_eq_true hc]; decide), if_pos (by rw [decide_eq_false h3]; rfl), if_pos hc, chk_pos (by
     have : ([((T.2.1.1, T.2.1.2, (plc ((sints t).take a) (1, 1)).1, (plc ((sints t).take a) (1, 1)).2) : TokV)]).length = 1 := rfl
     rw [this]; simp only [maxLen]; omega)]
    rw [m_r06_All_J1]
    dsimp only
    rw [w64 (by omega)]; rfl
   ·rw [if_pos (by rw [decide_eq_false hc]; rfl), if_neg hc]
theorem all_skip {a a' : Nat} {p p' : Int × Int} {ok : Bool} (h : BlR t a p ok a' p') (v1 v2 v3 : Int) (v4 : ByteArray) (acc : List TokV) (hacc : acc.length ≤ 33554432) (hp : p = plc ((sints t).take a) (1, 1)) :
  p' = plc ((sints t).take a') (1, 1) ∧ ∀ f, t.size < f + a → ∃ f', t.size < f' + a' ∧ m_r06_All_L1 N t f v1 v2 v3 v4 acc (a : Int) = m_r06_All_L1 N t f' v1 v2 v3 v4 acc (a' : Int) := by
 induction h with
 | fin h => exact ⟨hp, fun f hf => ⟨f, hf, rfl⟩⟩
 | done h h2 => exact ⟨hp, fun f hf => ⟨f, hf, rfl⟩⟩
 | opn h h2 => exact ⟨hp, fun f hf => ⟨f, hf, rfl⟩⟩
 | @skip a p k ok a' p' h1 h2 h3 h4 h5 ih =>
  obtain ⟨i1, i2⟩ := ih (by rw [hp, plc_take])
  refine ⟨i1, fun f hf => ?_⟩
  obtain ⟨f, rfl⟩ : ∃ g, f = g + 1 := ⟨f - 1, by omega⟩
  obtain ⟨f', h6, h7⟩ := i2 f (by omega)
  refine ⟨f', h6, ?_⟩
  rw [all_step ht hN hN2 h1 f v1 v2 v3 v4 acc hacc, h2]
  obtain ⟨k, rfl⟩ : ∃ g, k = g + 1 := ⟨k - 1, by omega⟩
  exact h7
def flL : Option FltV → List (TokV × Option FltV)
 | none => []
 | some e => [((0, ⟨#[]⟩, 0, 0), some e)]
def fltO (f : Option FltV) : FltV := f.getD (0, 0, 0, ⟨#[]⟩)
theorem bl_false {a a' : Nat} {p p' : Int × Int} {ok : Bool} (h : BlR t a p ok a' p') : (ok = false → a' < t.size ∧ skS ((sints t).drop a') = none) ∧ (ok = true → a' < t.size → skS ((sints t).drop a') = some 0) := by
 induction h with
 | fin h => exact ⟨fun e => (by cases e), fun _ e => by omega⟩
 | done h h2 => exact ⟨fun e => (by cases e), fun _ _ => h2⟩
 | opn h h2 => exact ⟨fun _ => ⟨h, h2⟩, fun e => by cases e⟩
 | skip h1 h2 h3 h4 h5 ih => exact ih
theorem all_L1 {a : Nat} {p : Int × Int} {l : List TokV} {f : Option FltV} (h : LexR t a p l f) (ha : a ≤ t.size) (v1 v2 v3 : Int) (v4 : ByteArray) : ∀ (acc : List TokV), acc.length + l.length ≤ 33554434 → acc.length ≤ a → p = plc ((sints t).take a) (1, 1) →
  ∀ g, t.size < g + a → m_r06_All_L1 N t g v1 v2 v3 v4 acc (a : Int) = some (acc ++ l, fltO f) := by
 induction h with
 | @fin a p p' h =>
  intro acc hl hacc hp g hg
  obtain ⟨h1, h2⟩ := all_skip ht hN hN2 h v1 v2 v3 v4 acc (by omega) hp
  obtain ⟨g', h3, h4⟩ := h2 g hg
  obtain ⟨g', rfl⟩ : ∃ k, g' = k + 1 := ⟨g' - 1, by omega⟩
  rw [h4, m_r06_All_L1.eq_2, if_neg (nd (by omega)), place_eq ht hN (by omega), Option.bind_some, h1]
  rw [chk_pos (by
   have : ([((0, ⟨#[]⟩, (plc ((sints t).take t.size) (1, 1)).1, (plc ((sints t).take t.size) (1, 1)).2) : TokV)]).length = 1 := rfl
   rw [this]; simp only [maxLen]; omega)]
  rfl
 | @opn a p a' p' h =>
  intro acc hl hacc hp g hg
  obtain ⟨h1, h2⟩ := all_skip ht hN hN2 h v1 v2 v3 v4 acc (by omega) hp
  obtain ⟨g', h3, h4⟩ := h2 g hg
  have h5 := (bl_false ht hN hN2 h).1 rfl
  obtain ⟨g', rfl⟩ : ∃ k, g' = k + 1 := ⟨g' - 1, by omega⟩
  rw [h4, all_step ht hN hN2 h5.1 g' v1 v2 v3 v4 acc (by omega), h5.2, h1, List.append_nil]
  rfl
 | @bad a p a' p' h hlt hc =>
  intro acc hl hacc hp g hg
  obtain ⟨h1, h2⟩ := all_skip ht hN hN2 h v1 v2 v3 v4 acc (by omega) hp
  obtain ⟨g', h3, h4⟩ := h2 g hg
  have h5 := (bl_false ht hN hN2 h).2 rfl hlt
  obtain ⟨g', rfl⟩ : ∃ k, g' = k + 1 := ⟨g' - 1, by omega⟩
  rw [h4, all_step ht hN hN2 hlt g' v1 v2 v3 v4 acc (by omega), h5]
  dsimp only
  rw [if_neg hc, h1, List.append_nil]
  rfl
 | @tok a p a' p' l f h hlt hc hr ih =>
  intro acc hl hacc hp g hg
  have hz : (t.extract a' t.size).size = t.size - a' := by rw [ByteArray.size_extract]; omega
  have hk := tokS_le (s := t.extract a' t.size) (by omega) hc
  have hle := h.le
  obtain ⟨h1, h2⟩ := all_skip ht hN hN2 h v1 v2 v3 v4 acc (by omega) hp
  obtain ⟨g', h3, h4⟩ := h2 g hg
  have h5 := (bl_false ht hN hN2 h).2 rfl hlt
  obtain ⟨g', rfl⟩ : ∃ k, g' = k + 1 := ⟨g' - 1, by omega⟩
  rw [List.length_cons] at hl
  rw [h4, all_step ht hN hN2 hlt g' v1 v2 v3 v4 acc (by omega), h5]
  dsimp only
  rw [if_pos hc]
  have := ih (by omega) (acc ++ [((tokS (t.extract a' t.size)).2.1.1, (tokS (t.extract a' t.size)).2.1.2, (plc ((sints t).take a') (1, 1)).1, (plc ((sints t).take a') (1, 1)).2)]) (by rw [List.length_append]; simp only [List.length_cons, List.length_nil]; omega) (by rw [List.length_append]; simp only [List.length_cons, List.length_nil]; omega) (by rw [h1, plc_take]) g' (by omega)
  rw [this, List.append_assoc, h1]; rfl
theorem ref_all_eq {l : List TokV} {f : Option FltV} (h : LexR t 0 (1, 1) l f) : m_r06_All N t = some (l, fltO f) := by
 have := h.facts (by omega)
 rw [m_r06_All]
 exact all_L1 ht hN hN2 h (by omega) 0 0 0 ⟨#[]⟩ [] (by simp; omega) (by simp) rfl N (by omega)
theorem each_L1 {a : Nat} {p : Int × Int} {l : List TokV} {f : Option FltV} (h : LexR t a p l f) (ha : a ≤ t.size) : Bd p a → ∀ g, t.size + 1 < g + a →
  m_lex_Each_1_L1 N g t (a : Int) p.1 p.2 = some (l.map (fun x => (x, none)) ++ flL f) := by
 induction h with
 | @fin a p p' h =>
  intro hb g hg
  obtain ⟨g, rfl⟩ : ∃ k, g = k + 1 := ⟨g - 1, by omega⟩
  rw [m_lex_Each_1_L1.eq_2, next_fin ht hN h hb, Option.bind_some]
  rfl
 | @opn a p a' p' h =>
  intro hb g hg
  obtain ⟨g, rfl⟩ : ∃ k, g = k + 1 := ⟨g - 1, by omega⟩
  rw [m_lex_Each_1_L1.eq_2, next_opn ht hN h hb, Option.bind_some]
  rfl
 | @bad a p a' p' h hlt hc =>
  intro hb g hg
  obtain ⟨g, rfl⟩ : ∃ k, g = k + 1 := ⟨g - 1, by omega⟩
  rw [m_lex_Each_1_L1.eq_2, next_tok ht hN h hb hlt, Option.bind_some, nxR, if_neg hc]
  rfl
 | @tok a p a' p' l f h hlt hc hr ih =>
  intro hb g hg
  obtain ⟨g, rfl⟩ : ∃ k, g = k + 1 := ⟨g - 1, by omega⟩
  have hz : (t.extract a' t.size).size = t.size - a' := by rw [ByteArray.size_extract]; omega
  have hk := tokS_le (s := t.extract a' t.size) (by omega) hc
  have hle := h.le
  have hb2 := (hle.2.2 hb).plc (xs := ((sints t).drop a').take (tokS (t.extract a' t.size)).1)
  rw [List.length_take, List.length_drop, sints_len, Nat.min_eq_left (by omega)] at hb2
  have := ih (by omega) hb2 g (by omega)
  rw [m_lex_Each_1_L1.eq_2, next_tok ht hN h hb hlt, Option.bind_some, nxR, if_pos hc]
  dsimp only
  rw [if_neg (by decide), if_neg (nd hk.2.2), this, Option.bind_some]; rfl
theorem lex_each_eq {l : List TokV} {f : Option FltV} (h : LexR t 0 (1, 1) l f) (hN3 : t.size + 1 < N) : m_lex_Each N t = some (l.map (fun x => (x, none)) ++ flL f) := by
 rw [m_lex_Each, m_lex_Each_1]
 exact each_L1 ht hN hN2 h (by omega) ⟨by decide, by decide, by decide, by decide⟩ N (by omega)
end
def m_l06_told_J1  : Option ((Int × Int × Int × ByteArray) × Bool) :=
  some ((0, 0, 0, ⟨#[]⟩), false)
def m_l06_told_J2 (f_15 : (Int × Int × Int × ByteArray)) (v_52 : Bool) : Option ((Int × Int × Int × ByteArray) × Bool) :=
  if v_52 = true then (some ((0, 0, 0, ⟨#[]⟩), false)) else (some ((f_15.1, f_15.2.1, f_15.2.2.1, f_15.2.2.2), true))
def m_l06_told (p0_err : (Option (Int × Int × Int × ByteArray))) : Option ((Int × Int × Int × ByteArray) × Bool) :=
  if (!p0_err.isSome) = true then (some ((0, 0, 0, ⟨#[]⟩), true)) else (optC (p0_err) (m_l06_told_J1) (fun f_15 => m_l06_told_J2 f_15 (decide (f_15.1 = 0))))
theorem c_l06_told {col : Col} {w0 : World} {ve0 : Value} {p0_err : (Option (Int × Int × Int × ByteArray))} {r : ((Int × Int × Int × ByteArray) × Bool)} (hm : m_l06_told p0_err = some r) (he0 : Rd (Rep.err 57 26 (Rep.pair (Rep.int .i64) (Rep.pair (Rep.int .i64) (Rep.pair (Rep.int .i64) Rep.str)))) col w0 [ve0] p0_err) (hgl : Gl (.iface 146 (.agg #[.pointer (some ⟨4, 30, none⟩)])) col w0) :
    Calls Tryz.prog 13 #[ve0] w0 (fun e w' => ∃ (col' : Col), e = .returned (.tuple #[(.agg #[(.int .i64 r.1.1), (.int .i64 r.1.2.1), (.int .i64 r.1.2.2.1), (.string r.1.2.2.2)]), (.bool r.2)]) ∧ Grow col w0 col' w') := by
 refine calls_ofR (m := 29) Tryz.func13 rfl rfl rfl ?_;rw [m_l06_told.eq_1] at hm;have hst := St.start col w0;refine go ?_;refine l_allocA (col := (col0 col)) #[(.int .i64 0), (.int .i64 0), (.int .i64 0), (.string (⟨#[]⟩))] 1 Tryz.zeroValue26 ?_;intro g_1 w_2 col_3 hg_4 hb_5;refine go ?_;refine lv (v := ve0) rfl rfl (r_move rfl) ?_;replace he0 := (he0.keep (Stay.start col w0)).gr hg_4;refine lV (.bool (!p0_err.isSome)) (r_eqlE he0 Tryz.underlying30 rfl) <| lnil ?_;replace hgl := (hgl.keep (Stay.start col w0)).gr hg_4;replace hst := hst.grow hg_4;refine wcb hm (fun hb hm => go ?_) fun hb hm => go ?_
 ·refine lV (.agg #[(.int .i64 0), (.int .i64 0), (.int .i64 0), (.string (⟨#[]⟩))]) (r_build (l := [_, _, _, _]) (qs := [(0, 1), (1, 1), (2, 1), (3, 1)]) Tryz.underlying26 Tryz.zeroValue26 ⟨rfl, Tryz.sizeOf24, rfl, Tryz.sizeOf3, rfl, Tryz.sizeOf3, rfl, Tryz.sizeOf9, trivial⟩ rfl) <| l_bsA hb_5 ?_;intro w_6 hk_7 hs_8 hb_9;refine go ?_;cases hm;replace hst := hst.kp hk_7 hs_8;exact ⟨rfl, _, rat hb_9.atN, _, rfl, hst.fin (cm [])⟩
 refine l_alloc (col := col_3) (v := (.pointer none)) 2 rfl Tryz.zeroValue57 ?_;intro g_10 w_11 col_12 hg_13 hb_14;replace hb_14 : Box 57 2 col_12 w_11 g_10 #[(.pointer none)] := hb_14;refine go ?_;refine lv (v := ve0) rfl rfl (r_move rfl) ?_;replace he0 := he0.gr hg_13;replace hgl := hgl.gr hg_13;replace hb_5 := hb_5.gr hg_13;replace hst := hst.grow hg_13;refine lV (.iface 59 (.pointer (some ⟨g_10, 0, none⟩))) (r_mkI Tryz.underlying59 rfl) ?_
 cases hx_16 : p0_err with
 | none =>
  rw [hx_16] at hm he0;replace hm := optC_none hm;obtain rfl := he0.eN;refine lc rfl rfl (r_call2 Tryz.call29 rfl rfl) (as_no _ _) ?_;rintro _ w_17 ⟨rfl, hg_18⟩;refine ⟨_, rfl, ?_⟩;replace hg_18 : Grow col_12 w_11 col_12 w_17 := .of_below hg_18;refine lAB rfl <| lnil <| wseq <| wseq ?_;replace hgl := hgl.gr hg_18;replace hb_5 := hb_5.gr hg_18;replace hb_14 := hb_14.gr hg_18;replace hst := hst.grow hg_18;refine Wp.cutK [2, 4, 1000000] (fun f w_19 => ∃ col_20, m_l06_told_J1  = some r ∧ St w0 (col0 col) col_20 w_19 ∧ Box 26 1 col_20 w_19 g_1 #[(.int .i64 0), (.int .i64 0), (.int .i64 0), (.string (⟨#[]⟩))] ∧ Box 57 2 col_20 w_19 g_10 #[(.pointer none)] ∧ Gl (.iface 146 (.agg #[.pointer (some ⟨4, 30, none⟩)])) col_20 w_19 ∧ [24].map f = [.bool true]) ?_ ?_
  ·intro f w_19 hJ;obtain ⟨col_20, hm, hst, hb_5, hb_14, hgl, hs⟩ := hJ;rw [m_l06_told_J1.eq_1] at hm;refine .lL [24] hs <| wcondT rfl <| go ?_;refine lV (.agg #[(.int .i64 0), (.int .i64 0), (.int .i64 0), (.string (⟨#[]⟩))]) (r_build (l := [_, _, _, _]) (qs := [(0, 1), (1, 1), (2, 1), (3, 1)]) Tryz.underlying26 Tryz.zeroValue26 ⟨rfl, Tryz.sizeOf24, rfl, Tryz.sizeOf3, rfl, Tryz.sizeOf3, rfl, Tryz.sizeOf9, trivial⟩ rfl) <| l_bsA hb_5 ?_;intro w_21 hk_22 hs_23 hb_24;refine go ?_;cases hm;replace hst := hst.kp hk_22 hs_23;exact ⟨rfl, _, rat hb_24.atN, _, rfl, hst.fin (cm [])⟩
  refine go ?_;refine lP 14 rfl rfl <| lP 14 rfl rfl <| lV (.bool true) (r_pickT rfl rfl) <| lMB rfl <| lP 18 rfl rfl <| lP 18 rfl rfl <| lP 18 rfl rfl <| lP 18 rfl rfl <| lP 18 rfl rfl <| lV (.bool true) (r_pickT rfl rfl) <| lnil ?_;exact ⟨rfl, _, hm, hst, hb_5, hb_14, hgl, rfl⟩
 | some f_15 =>
  rw [hx_16] at hm he0;replace hm := optC_some hm;refine lc rfl rfl (r_call2 Tryz.call29 rfl rfl) (as_yes hgl he0 hb_14 (k := 0) rfl rfl) ?_;rintro _ w_25 ⟨col_26, b_31, rfl, hk_27, hs_28, hb_29, hP_30⟩;refine ⟨_, rfl, ?_⟩;replace hb_29 : Box 57 2 col_26 w_25 g_10 #[(.pointer (some ⟨b_31, 0, none⟩))] := hb_29;refine lAB rfl <| lnil <| wseq <| wseq ?_;replace hgl := hgl.kp hk_27;replace hb_5 := hb_5.kp hk_27;replace hst := hst.kp hk_27 hs_28;refine Wp.cutK [2, 4, 1000000] (fun f w_50 => ∃ col_51 v_52, m_l06_told_J2 f_15 v_52 = some r ∧ St w0 (col0 col) col_51 w_50 ∧ Box 26 1 col_51 w_50 g_1 #[(.int .i64 0), (.int .i64 0), (.int .i64 0), (.string (⟨#[]⟩))] ∧ Rd (Rep.fptr 26 (Rep.pair (Rep.int .i64) (Rep.pair (Rep.int .i64) (Rep.pair (Rep.int .i64) Rep.str)))) col_51 w_50 [(.pointer (some ⟨b_31, 0, none⟩))] (some f_15) ∧ Box 57 2 col_51 w_50 g_10 #[(.pointer (some ⟨b_31, 0, none⟩))] ∧ Gl (.iface 146 (.agg #[.pointer (some ⟨4, 30, none⟩)])) col_51 w_50 ∧ [24].map f = [.bool v_52]) ?_ ?_
  ·intro f w_50 hJ;obtain ⟨col_51, v_52, hm, hst, hb_5, hP_30, hb_29, hgl, hs⟩ := hJ;rw [m_l06_told_J2.eq_1] at hm;refine .lL [24] hs ?_;refine wcb hm (fun hb hm => go ?_) fun hb hm => go ?_
   ·refine lV (.agg #[(.int .i64 0), (.int .i64 0), (.int .i64 0), (.string (⟨#[]⟩))]) (r_build (l := [_, _, _, _]) (qs := [(0, 1), (1, 1), (2, 1), (3, 1)]) Tryz.underlying26 Tryz.zeroValue26 ⟨rfl, Tryz.sizeOf24, rfl, Tryz.sizeOf3, rfl, Tryz.sizeOf3, rfl, Tryz.sizeOf9, trivial⟩ rfl) <| l_bsA hb_5 ?_;intro w_53 hk_54 hs_55 hb_56;refine go ?_;cases hm;replace hst := hst.kp hk_54 hs_55;exact ⟨rfl, _, rat hb_56.atN, _, rfl, hst.fin (cm [])⟩
   refine lW hb_29.at1 ?_;obtain ⟨_, _, hq9, hF_58, hr_59⟩ := hP_30.pS;cases hq9;obtain ⟨_, _, rfl, hp_60, hp_61⟩ := rd_pair hr_59;obtain ⟨rfl, _⟩ := hp_60;obtain ⟨_, _, rfl, hp_62, hp_63⟩ := rd_pair hp_61;obtain ⟨rfl, _⟩ := hp_62;obtain ⟨_, _, rfl, hp_64, hp_65⟩ := rd_pair hp_63;obtain ⟨rfl, _⟩ := hp_64;obtain ⟨rfl, _⟩ := hp_65;replace hF_58 : FzB 26 col_51 w_50 b_31 [(.int .i64 f_15.1), (.int .i64 f_15.2.1), (.int .i64 f_15.2.2.1), (.string f_15.2.2.2)] := hF_58;refine lV (.pointer (some ⟨b_31, 0, none⟩)) (r_nilCheck rfl) <| lV _ (r_ldB Tryz.isAgg26 Tryz.sizeOf26 hF_58) <| l_bsA hb_5 ?_;intro w_66 hk_67 hs_68 hb_69;refine go ?_;cases hm;replace hst := hst.kp hk_67 hs_68;exact ⟨rfl, _, rat hb_69.atN, _, rfl, hst.fin (cm [])⟩
  refine go ?_;refine lG 14 rfl rfl <| lW hb_29.at1 <| lG 14 rfl rfl <| lV (.bool false) (r_eqlP hP_30 Tryz.underlying57 rfl) <| lV (.bool false) (r_pickF rfl rfl) <| lMB rfl <| lG 18 rfl rfl <| lW hb_29.at1 <| lG 18 rfl rfl ?_;obtain ⟨_, _, hq9, hF_71, hr_72⟩ := hP_30.pS;cases hq9;obtain ⟨_, _, rfl, hp_73, hp_74⟩ := rd_pair hr_72;obtain ⟨rfl, _⟩ := hp_73;obtain ⟨_, _, rfl, hp_75, hp_76⟩ := rd_pair hp_74;obtain ⟨rfl, _⟩ := hp_75;obtain ⟨_, _, rfl, hp_77, hp_78⟩ := rd_pair hp_76;obtain ⟨rfl, _⟩ := hp_77;obtain ⟨rfl, _⟩ := hp_78;replace hF_71 : FzB 26 col_26 w_25 b_31 [(.int .i64 f_15.1), (.int .i64 f_15.2.1), (.int .i64 f_15.2.2.1), (.string f_15.2.2.2)] := hF_71;refine lV (.pointer (some ⟨b_31, 0, none⟩)) (r_nilCheck rfl) <| lG 18 rfl rfl <| lFa ⟨_, _, rfl⟩ ?_;refine lG 18 rfl rfl <| lW (hF_71.atN.nth (q := 0) rfl) <| lG 18 rfl rfl <| go ?_;refine lV (.bool (decide (f_15.1 = 0))) (r_pickF rfl rfl) <| lnil ?_;exact ⟨rfl, _, _, hm, hst, hb_5, hP_30, hb_29, hgl, rfl⟩
def m_lex_Name_J1 (v_29 : Bool) : Option Bool :=
  some v_29
def m_lex_Name (N : Nat) (p0_s : ByteArray) : Option Bool :=
  if (!decide (p0_s = (⟨#[]⟩))) = true then (if (decide ((p0_s.size : Int) ≤ 64)) = true then ((bat? p0_s 0).bind fun e_32 => (m_lex_letter e_32).bind fun r_34 => if r_34 = true then ((m_lex_run_v2f36 N p0_s 0).bind fun r_39 => m_lex_Name_J1 (decide (r_39 = (p0_s.size : Int)))) else (m_lex_Name_J1 false)) else (m_lex_Name_J1 false)) else (m_lex_Name_J1 false)
theorem c_lex_Name {N : Nat} {col : Col} {w0 : World} {p0_s : ByteArray} {r : Bool} (hm : m_lex_Name N p0_s = some r)  :
    Calls Tryz.prog 18 #[(.string p0_s)] w0 (fun e w' => e = .returned ((.bool r)) ∧ Below w0.heap.size w0 w') := by
 refine calls_of1 2 (m := 22) Tryz.func18 rfl rfl rfl rfl rfl ?_;rw [m_lex_Name.eq_1] at hm;have hst := St.start col w0;refine wseq <| wregion <| lAB rfl <| lnil <| wseq ?_;refine Wp.cutK [1000000] (fun f w_27 => ∃ col_28 v_29, m_lex_Name_J1 v_29 = some r ∧ St w0 (col0 col) col_28 w_27 ∧ [2].map f = [.bool v_29]) ?_ ?_
 ·intro f w_27 hJ;obtain ⟨col_28, v_29, hm, hst, hs⟩ := hJ;rw [m_lex_Name_J1.eq_1] at hm;refine .lL [2] hs <| wret ?_;cases hm;exact ⟨rfl, rfl, hst.below⟩
 refine go ?_;refine bcb hm (fun hg_30 hm => go ?_) fun hg_30 hm => go ?_
 ·refine lV (.bool (decide ((p0_s.size : Int) ≤ 64))) (r_pickT (congrArg Value.bool hg_30) rfl) <| lMB rfl ?_;refine bcb hm (fun hg_31 hm => go ?_) fun hg_31 hm => go ?_
  ·obtain ⟨e_32, hj_33, hm⟩ := bZ hm;refine lV (.int .u8 e_32) (r_indexS (s := p0_s) Tryz.underlying9 rfl rfl hj_33) <| go ?_;obtain ⟨r_34, hr_35, hm⟩ := bZ hm;refine lcA (c_lex_letter (col := (col0 col)) hr_35) ?_;rintro _ w_36 ⟨rfl, hg_37⟩;refine ⟨_, rfl, ?_⟩;replace hg_37 : Grow (col0 col) w0 (col0 col) w_36 := .of_below hg_37;refine lV (.bool r_34) (r_pickT (congrArg Value.bool hg_31) rfl) <| lMB rfl ?_;replace hst := hst.grow hg_37;refine bcb hm (fun hg_38 hm => go ?_) fun hg_38 hm => go ?_
   ·obtain ⟨r_39, hr_40, hm⟩ := bZ hm;refine lcA (c_lex_run_v2f36 (col := (col0 col)) hr_40) ?_;rintro _ w_41 ⟨rfl, hg_42⟩;refine ⟨_, rfl, ?_⟩;replace hg_42 : Grow (col0 col) w_36 (col0 col) w_41 := .of_below hg_42;refine go ?_;refine lV (.bool (decide (r_39 = (p0_s.size : Int)))) (r_pickT (congrArg Value.bool hg_38) rfl) <| go ?_;replace hst := hst.grow hg_42;exact ⟨rfl, _, _, hm, hst, rfl⟩
   refine lV (.bool false) (r_pickF (congrArg Value.bool hg_38) rfl) <| go ?_;exact ⟨rfl, _, _, hm, hst, rfl⟩
  refine lV (.bool false) (r_pickF (congrArg Value.bool hg_31) rfl) <| lMB rfl <| lP 15 rfl rfl <| lP 15 rfl rfl <| lP 15 rfl rfl <| lP 15 rfl rfl <| lP 15 rfl rfl <| lV (.bool false) (r_pickF rfl rfl) <| go ?_;exact ⟨rfl, _, _, hm, hst, rfl⟩
 refine lV (.bool false) (r_pickF (congrArg Value.bool hg_30) rfl) <| lMB rfl <| lP 10 rfl rfl <| lP 10 rfl rfl <| lP 10 rfl rfl <| lV (.bool false) (r_pickF rfl rfl) <| lMB rfl <| lP 15 rfl rfl <| lP 15 rfl rfl <| lP 15 rfl rfl <| lP 15 rfl rfl <| lP 15 rfl rfl <| lV (.bool false) (r_pickF rfl rfl) <| go ?_;exact ⟨rfl, _, _, hm, hst, rfl⟩
theorem c_lex_Quote (col : Col) (w0 : World) (p0_s : ByteArray) (r : ByteArray) (hm : m_quote p0_s = some r) :
    Calls Tryz.prog 20 #[(.string p0_s)] w0 (fun e w' => e = .returned ((.string r)) ∧ Below w0.heap.size w0 w') :=
  quote_c  col w0 p0_s r hm
def m_l06_awake_J2 (v_118 : Bool) : Option Bool :=
  some v_118
def m_l06_awake_J1 (N : Nat) (r_1 : ((List (Int × ByteArray × Int × Int)) × (Option (Int × Int × Int × ByteArray)))) (r_21 : ((Int × Int × Int × ByteArray) × Bool)) (v_41 : Bool) : Option Bool :=
  if v_41 = true then (some false) else ((at? r_1.1 1).bind fun e_119 => if (decide (e_119.1 = 3) && decide (e_119.2.1 = (⟨#[120, 34, 121]⟩)) && decide (e_119.2.2.1 = 2) && decide (e_119.2.2.2 = 1)) = true then ((at? r_1.1 3).bind fun e_130 => if (decide (e_130.1 = 0) && decide (e_130.2.1 = (⟨#[]⟩)) && decide (e_130.2.2.1 = 2) && decide (e_130.2.2.2 = 14)) = true then (if (decide (r_21.1.1 = 22) && decide (r_21.1.2.1 = 1) && decide (r_21.1.2.2.1 = 8) && decide (r_21.1.2.2.2 = (⟨#[50, 101]⟩))) = true then ((m_lex_Name N (⟨#[97, 49]⟩)).bind fun r_142 => if r_142 = true then ((m_lex_Name N (⟨#[49, 97]⟩)).bind fun r_147 => if (!r_147) = true then ((m_quote (⟨#[97]⟩)).bind fun r_152 => m_l06_awake_J2 (decide (r_152 = (⟨#[34, 97, 34]⟩)))) else (m_l06_awake_J2 false)) else (m_l06_awake_J2 false)) else (m_l06_awake_J2 false)) else (m_l06_awake_J2 false)) else (m_l06_awake_J2 false))
def m_l06_awake (N : Nat)  : Option Bool :=
  (m_lex_Scan N (⟨#[97, 10, 34, 120, 92, 34, 121, 34, 59, 32, 47, 47, 32, 115, 111]⟩)).bind fun r_1 => (m_lex_Scan N (⟨#[49, 46, 53, 101, 45, 51, 44, 50, 101]⟩)).bind fun r_11 => (m_l06_told r_11.2).bind fun r_21 => if r_1.2.isSome = true then (m_l06_awake_J1 N r_1 r_21 true) else (if (!r_21.2) = true then (m_l06_awake_J1 N r_1 r_21 true) else (m_l06_awake_J1 N r_1 r_21 (!decide ((r_1.1.length : Int) = 4))))
theorem c_l06_awake {N : Nat} {col : Col} {w0 : World} {r : Bool} (hm : m_l06_awake N = some r) (hgl : Gl (.iface 146 (.agg #[.pointer (some ⟨4, 30, none⟩)])) col w0) :
    Calls Tryz.prog 10 #[] w0 (fun e w' => e = .returned ((.bool r)) ∧ Below w0.heap.size w0 w') := by
 refine calls_of1 0 (m := 59) Tryz.func10 rfl rfl rfl rfl rfl ?_;rw [m_l06_awake.eq_1] at hm;have hst := St.start col w0;refine go ?_;obtain ⟨r_1, hr_2, hm⟩ := bZ hm;replace hgl := hgl.keep (Stay.start col w0);refine lcA (c_lex_Scan 1 hr_2 hgl) ?_;rintro _ w_8 ⟨col_10, ra_3, rc_4, rv_6, rfl, hg_9, rh_5, rh_7⟩;refine ⟨_, rfl, ?_⟩;refine lM (.tuple #[(.slice ra_3 r_1.1.length rc_4), rv_6]) <| lV (.slice ra_3 r_1.1.length rc_4) (r_extract rfl rfl) <| lv (v := rv_6) rfl rfl (r_extract rfl rfl) <| lAS rfl <| lv (v := rv_6) rfl rfl (r_assign rfl) <| go ?_;obtain ⟨r_11, hr_12, hm⟩ := bZ hm;replace hgl := hgl.gr hg_9;refine lcA (c_lex_Scan 2 hr_12 hgl) ?_;rintro _ w_18 ⟨col_20, ra_13, rc_14, rv_16, rfl, hg_19, rh_15, rh_17⟩;refine ⟨_, rfl, ?_⟩;refine lM (.tuple #[(.slice ra_13 r_11.1.length rc_14), rv_16]) <| lV (.slice ra_13 r_11.1.length rc_14) (r_extract rfl rfl) <| lv (v := rv_16) rfl rfl (r_extract rfl rfl) <| lAS rfl <| lv (v := rv_16) rfl rfl (r_assign rfl) <| go ?_;refine lv (v := rv_16) rfl rfl (r_move rfl) ?_;obtain ⟨r_21, hr_22, hm⟩ := bZ hm;replace hgl := hgl.gr hg_19;refine lcA (c_l06_told hr_22 rh_17 hgl) ?_;rintro _ w_23 ⟨col_25, rfl, hg_24⟩;refine ⟨_, rfl, ?_⟩;refine lM (.tuple #[(.agg #[(.int .i64 r_21.1.1), (.int .i64 r_21.1.2.1), (.int .i64 r_21.1.2.2.1), (.string r_21.1.2.2.2)]), (.bool r_21.2)]) <| lV (.agg #[(.int .i64 r_21.1.1), (.int .i64 r_21.1.2.1), (.int .i64 r_21.1.2.2.1), (.string r_21.1.2.2.2)]) (r_extract rfl rfl) <| lV (.bool r_21.2) (r_extract rfl rfl) <| l_allocA (col := col_25) #[(.int .i64 0), (.int .i64 0), (.int .i64 0), (.string (⟨#[]⟩))] 3 Tryz.zeroValue26 ?_;intro g_26 w_27 col_28 hg_29 hb_30;refine l_bsA hb_30 ?_;intro w_31 hk_32 hs_33 hb_34;refine lAB rfl <| lnil <| wseq <| wseq ?_;replace hst := ((((hst.grow hg_9).grow hg_19).grow hg_24).grow hg_29).kp hk_32 hs_33;replace rh_5 := (((rh_5.gr hg_19).gr hg_24).gr hg_29).kp hk_32;replace rh_7 := (((rh_7.gr hg_19).gr hg_24).gr hg_29).kp hk_32;replace hgl := ((hgl.gr hg_24).gr hg_29).kp hk_32;refine Wp.cutK [1, 5, 1000000] (fun f w_39 => ∃ col_40 v_41, m_l06_awake_J1 N r_1 r_21 v_41 = some r ∧ St w0 (col0 col) col_40 w_39 ∧ Own (Rep.pair (Rep.int .i8) (Rep.pair Rep.str (Rep.pair (Rep.int .i64) (Rep.int .i64)))) 38 1 col_40 w_39 ra_3 rc_4 r_1.1 ∧ Box 26 3 col_40 w_39 g_26 #[(.int .i64 r_21.1.1), (.int .i64 r_21.1.2.1), (.int .i64 r_21.1.2.2.1), (.string r_21.1.2.2.2)] ∧ Gl (.iface 146 (.agg #[.pointer (some ⟨4, 30, none⟩)])) col_40 w_39 ∧ [30].map f = [.bool v_41]) ?_ ?_
 ·intro f w_39 hJ;obtain ⟨col_40, v_41, hm, hst, rh_5, hb_34, hgl, hs⟩ := hJ;rw [m_l06_awake_J1.eq_1] at hm;refine .lL [30] hs ?_;refine wcb hm (fun hb hm => go ?_) fun hb hm => ?_
  ·cases hm;exact ⟨rfl, rfl, hst.below⟩
  refine wskip <| wseq ?_;refine Wp.cutK [1000000] (fun f w_116 => ∃ col_117 v_118, m_l06_awake_J2 v_118 = some r ∧ St w0 (col0 col) col_117 w_116 ∧ Gl (.iface 146 (.agg #[.pointer (some ⟨4, 30, none⟩)])) col_117 w_116 ∧ [0].map f = [.bool v_118]) ?_ ?_
  ·intro f w_116 hJ;obtain ⟨col_117, v_118, hm, hst, hgl, hs⟩ := hJ;rw [m_l06_awake_J2.eq_1] at hm;refine .lL [0] hs <| wret ?_;cases hm;exact ⟨rfl, rfl, hst.below⟩
  refine go ?_;obtain ⟨e_119, hj_120, hm⟩ := bZ hm;refine lI hj_120 (rh_5.addr hj_120) ?_;obtain ⟨_, hr_121, hA_122⟩ := rh_5.atN hj_120;obtain ⟨_, _, rfl, hp_123, hp_124⟩ := hr_121.parts;obtain rfl := hp_123.int;obtain ⟨_, _, rfl, hp_125, hp_126⟩ := hp_124.parts;obtain rfl := hp_125.str;obtain ⟨_, _, rfl, hp_127, hp_128⟩ := hp_126.parts;obtain rfl := hp_127.int;obtain rfl := hp_128.int;refine lV (.agg #[(.int .i8 e_119.1), (.string e_119.2.1), (.int .i64 e_119.2.2.1), (.int .i64 e_119.2.2.2)]) (r_ldN Tryz.isAgg38 Tryz.sizeOf38 rfl rfl hA_122) <| lV (.agg #[(.int .i8 3), (.string (⟨#[120, 34, 121]⟩)), (.int .i64 2), (.int .i64 1)]) (r_build (l := [_, _, _, _]) (qs := [(0, 1), (1, 1), (2, 1), (3, 1)]) Tryz.underlying38 Tryz.zeroValue38 ⟨rfl, Tryz.sizeOf36, rfl, Tryz.sizeOf9, rfl, Tryz.sizeOf3, rfl, Tryz.sizeOf3, trivial⟩ rfl) <| lV (.bool (decide (e_119.1 = 3) && decide (e_119.2.1 = (⟨#[120, 34, 121]⟩)) && decide (e_119.2.2.1 = 2) && decide (e_119.2.2.2 = 1))) (r_eqlA rfl rfl (by decide +kernel) (eq_struct4 Tryz.underlying38 (by decide +kernel) (by decide) (by decide) (by decide) (by decide) (r_part Tryz.isAgg36 rfl) (r_part Tryz.isAgg36 rfl) (r_part Tryz.isAgg9 rfl) (r_part Tryz.isAgg9 rfl) (r_part Tryz.isAgg3 rfl) (r_part Tryz.isAgg3 rfl) (r_part Tryz.isAgg3 rfl) (r_part Tryz.isAgg3 rfl) (peq_int e_119.1 3 Tryz.underlying36) (peq_str e_119.2.1 (⟨#[120, 34, 121]⟩) Tryz.underlying9) (peq_int e_119.2.2.1 2 Tryz.underlying3) (peq_int e_119.2.2.2 1 Tryz.underlying3))) <| lMB rfl ?_;refine bcb hm (fun hg_129 hm => go ?_) fun hg_129 hm => go ?_
  ·obtain ⟨e_130, hj_131, hm⟩ := bZ hm;refine lI hj_131 (rh_5.addr hj_131) ?_;refine go ?_;obtain ⟨_, hr_132, hA_133⟩ := rh_5.atN hj_131;obtain ⟨_, _, rfl, hp_134, hp_135⟩ := hr_132.parts;obtain rfl := hp_134.int;obtain ⟨_, _, rfl, hp_136, hp_137⟩ := hp_135.parts;obtain rfl := hp_136.str;obtain ⟨_, _, rfl, hp_138, hp_139⟩ := hp_137.parts;obtain rfl := hp_138.int;obtain rfl := hp_139.int;refine lV (.agg #[(.int .i8 e_130.1), (.string e_130.2.1), (.int .i64 e_130.2.2.1), (.int .i64 e_130.2.2.2)]) (r_ldN Tryz.isAgg38 Tryz.sizeOf38 rfl rfl hA_133) <| go ?_;refine lV (.agg #[(.int .i8 0), (.string (⟨#[]⟩)), (.int .i64 2), (.int .i64 14)]) (r_build (l := [_, _, _, _]) (qs := [(0, 1), (1, 1), (2, 1), (3, 1)]) Tryz.underlying38 Tryz.zeroValue38 ⟨rfl, Tryz.sizeOf36, rfl, Tryz.sizeOf9, rfl, Tryz.sizeOf3, rfl, Tryz.sizeOf3, trivial⟩ rfl) <| go ?_;refine lV (.bool (decide (e_130.1 = 0) && decide (e_130.2.1 = (⟨#[]⟩)) && decide (e_130.2.2.1 = 2) && decide (e_130.2.2.2 = 14))) (r_eqlA rfl rfl (by decide +kernel) (eq_struct4 Tryz.underlying38 (by decide +kernel) (by decide) (by decide) (by decide) (by decide) (r_part Tryz.isAgg36 rfl) (r_part Tryz.isAgg36 rfl) (r_part Tryz.isAgg9 rfl) (r_part Tryz.isAgg9 rfl) (r_part Tryz.isAgg3 rfl) (r_part Tryz.isAgg3 rfl) (r_part Tryz.isAgg3 rfl) (r_part Tryz.isAgg3 rfl) (peq_int e_130.1 0 Tryz.underlying36) (peq_str e_130.2.1 (⟨#[]⟩) Tryz.underlying9) (peq_int e_130.2.2.1 2 Tryz.underlying3) (peq_int e_130.2.2.2 14 Tryz.underlying3))) <| lV (.bool (decide (e_130.1 = 0) && decide (e_130.2.1 = (⟨#[]⟩)) && decide (e_130.2.2.1 = 2) && decide (e_130.2.2.2 = 14))) (r_pickT (congrArg Value.bool hg_129) rfl) <| lMB rfl ?_;refine bcb hm (fun hg_140 hm => go ?_) fun hg_140 hm => go ?_
   ·refine lV _ (r_ldB Tryz.isAgg26 Tryz.sizeOf26 hb_34) <| go ?_;refine lV (.agg #[(.int .i64 22), (.int .i64 1), (.int .i64 8), (.string (⟨#[50, 101]⟩))]) (r_build (l := [_, _, _, _]) (qs := [(0, 1), (1, 1), (2, 1), (3, 1)]) Tryz.underlying26 Tryz.zeroValue26 ⟨rfl, Tryz.sizeOf24, rfl, Tryz.sizeOf3, rfl, Tryz.sizeOf3, rfl, Tryz.sizeOf9, trivial⟩ rfl) <| go ?_;refine lV (.bool (decide (r_21.1.1 = 22) && decide (r_21.1.2.1 = 1) && decide (r_21.1.2.2.1 = 8) && decide (r_21.1.2.2.2 = (⟨#[50, 101]⟩)))) (r_eqlA rfl rfl (by decide +kernel) (eq_struct4 Tryz.underlying26 (by decide +kernel) (by decide) (by decide) (by decide) (by decide) (r_part Tryz.isAgg24 rfl) (r_part Tryz.isAgg24 rfl) (r_part Tryz.isAgg3 rfl) (r_part Tryz.isAgg3 rfl) (r_part Tryz.isAgg3 rfl) (r_part Tryz.isAgg3 rfl) (r_part Tryz.isAgg9 rfl) (r_part Tryz.isAgg9 rfl) (peq_int r_21.1.1 22 Tryz.underlying24) (peq_int r_21.1.2.1 1 Tryz.underlying3) (peq_int r_21.1.2.2.1 8 Tryz.underlying3) (peq_str r_21.1.2.2.2 (⟨#[50, 101]⟩) Tryz.underlying9))) <| lV (.bool (decide (r_21.1.1 = 22) && decide (r_21.1.2.1 = 1) && decide (r_21.1.2.2.1 = 8) && decide (r_21.1.2.2.2 = (⟨#[50, 101]⟩)))) (r_pickT (congrArg Value.bool hg_140) rfl) <| lMB rfl ?_;refine bcb hm (fun hg_141 hm => go ?_) fun hg_141 hm => go ?_
    ·obtain ⟨r_142, hr_143, hm⟩ := bZ hm;refine lcA (c_lex_Name (col := col_40) hr_143) ?_;rintro _ w_144 ⟨rfl, hg_145⟩;refine ⟨_, rfl, ?_⟩;replace hg_145 : Grow col_40 w_39 col_40 w_144 := .of_below hg_145;refine lV (.bool r_142) (r_pickT (congrArg Value.bool hg_141) rfl) <| lMB rfl ?_;replace hgl := hgl.gr hg_145;replace hst := hst.grow hg_145;refine bcb hm (fun hg_146 hm => go ?_) fun hg_146 hm => go ?_
     ·obtain ⟨r_147, hr_148, hm⟩ := bZ hm;refine lcA (c_lex_Name (col := col_40) hr_148) ?_;rintro _ w_149 ⟨rfl, hg_150⟩;refine ⟨_, rfl, ?_⟩;replace hg_150 : Grow col_40 w_144 col_40 w_149 := .of_below hg_150;refine go ?_;refine lV (.bool (!r_147)) (r_pickT (congrArg Value.bool hg_146) rfl) <| lMB rfl ?_;replace hgl := hgl.gr hg_150;replace hst := hst.grow hg_150;refine bcb hm (fun hg_151 hm => go ?_) fun hg_151 hm => go ?_
      ·obtain ⟨r_152, hr_153, hm⟩ := bZ hm;refine lcA (c_lex_Quote col_40 _ (⟨#[97]⟩) r_152 hr_153) ?_;rintro _ w_154 ⟨rfl, hg_155⟩;refine ⟨_, rfl, ?_⟩;replace hg_155 : Grow col_40 w_149 col_40 w_154 := .of_below hg_155;refine go ?_;refine lV (.bool (decide (r_152 = (⟨#[34, 97, 34]⟩)))) (r_pickT (congrArg Value.bool hg_151) rfl) <| go ?_;replace hgl := hgl.gr hg_155;replace hst := hst.grow hg_155;exact ⟨rfl, _, _, hm, hst, hgl, rfl⟩
      refine lV (.bool false) (r_pickF (congrArg Value.bool hg_151) rfl) <| go ?_;exact ⟨rfl, _, _, hm, hst, hgl, rfl⟩
     refine lV (.bool false) (r_pickF (congrArg Value.bool hg_146) rfl) <| lMB rfl <| lP 55 rfl rfl <| lP 55 rfl rfl <| lV (.bool false) (r_pickF rfl rfl) <| go ?_;exact ⟨rfl, _, _, hm, hst, hgl, rfl⟩
    refine lV (.bool false) (r_pickF (congrArg Value.bool hg_141) rfl) <| lMB rfl <| lP 51 rfl rfl <| lP 51 rfl rfl <| lV (.bool false) (r_pickF rfl rfl) <| lMB rfl <| lP 55 rfl rfl <| lP 55 rfl rfl <| lV (.bool false) (r_pickF rfl rfl) <| go ?_;exact ⟨rfl, _, _, hm, hst, hgl, rfl⟩
   refine lV (.bool false) (r_pickF (congrArg Value.bool hg_140) rfl) <| lMB rfl <| lP 48 rfl rfl <| lV (.bool false) (r_pickF rfl rfl) <| lMB rfl <| lP 51 rfl rfl <| lP 51 rfl rfl <| lV (.bool false) (r_pickF rfl rfl) <| lMB rfl <| lP 55 rfl rfl <| lP 55 rfl rfl <| lV (.bool false) (r_pickF rfl rfl) <| go ?_;exact ⟨rfl, _, _, hm, hst, hgl, rfl⟩
  refine lV (.bool false) (r_pickF (congrArg Value.bool hg_129) rfl) <| lMB rfl <| lP 43 rfl rfl <| lP 43 rfl rfl <| lP 43 rfl rfl <| lV (.bool false) (r_pickF rfl rfl) <| lMB rfl <| lP 48 rfl rfl <| lV (.bool false) (r_pickF rfl rfl) <| lMB rfl <| lP 51 rfl rfl <| lP 51 rfl rfl <| lV (.bool false) (r_pickF rfl rfl) <| lMB rfl <| lP 55 rfl rfl <| lP 55 rfl rfl <| lV (.bool false) (r_pickF rfl rfl) <| go ?_;exact ⟨rfl, _, _, hm, hst, hgl, rfl⟩
 refine wregion <| lv (v := rv_6) rfl rfl (r_move rfl) <| lV (.bool r_1.2.isSome) (r_neqE rh_7 Tryz.underlying30 rfl) <| lMB rfl ?_;refine bcb hm (fun hg_156 hm => go ?_) fun hg_156 hm => go ?_
 ·refine lV (.bool true) (r_pickT (congrArg Value.bool hg_156) rfl) <| lMB rfl <| lP 26 rfl rfl <| lP 26 rfl rfl <| lP 26 rfl rfl <| lV (.bool true) (r_pickT rfl rfl) <| lnil ?_;exact ⟨rfl, _, _, hm, hst, rh_5, hb_34, hgl, rfl⟩
 refine lV (.bool (!r_21.2)) (r_pickF (congrArg Value.bool hg_156) rfl) <| lMB rfl ?_;refine bcb hm (fun hg_157 hm => go ?_) fun hg_157 hm => go ?_
 ·refine lV (.bool true) (r_pickT (congrArg Value.bool hg_157) rfl) <| lnil ?_;exact ⟨rfl, _, _, hm, hst, rh_5, hb_34, hgl, rfl⟩
 refine lV (.bool (!decide ((r_1.1.length : Int) = 4))) (r_pickF (congrArg Value.bool hg_157) rfl) <| lnil ?_;exact ⟨rfl, _, _, hm, hst, rh_5, hb_34, hgl, rfl⟩
def scanR (l : List TokV) : Option FltV → List TokV × Option FltV
 | none => (l, none)
 | some e => ([], some e)
theorem scan_L1 (f : Option FltV) (v : List TokV) (e0 : Option FltV) : ∀ (l acc : List TokV), acc.length + l.length ≤ 33554435 →
  m_lex_Scan_L1 (l.map (fun x => (x, none)) ++ flL f) v e0 acc = some (scanR (acc ++ l) f)
 | [], acc, h => by
  cases f with
  | none => rw [List.map_nil, List.nil_append, flL, m_lex_Scan_L1.eq_1, List.append_nil]; rfl
  | some e => rw [List.map_nil, List.nil_append, flL, m_lex_Scan_L1.eq_2, List.append_nil]; rfl
 | x :: l, acc, h => by
  rw [List.length_cons] at h
  rw [List.map_cons, List.cons_append, m_lex_Scan_L1.eq_2, if_neg (by exact fun e => by cases e)]
  have hc : (acc.length + [x].length) * 40 ≤ 140737488355328 ∧ acc.length + [x].length ≤ maxLen := by
   have : [x].length = 1 := rfl
   rw [this]; simp only [maxLen]; omega
  refine (chk_pos hc).trans ?_
  have := scan_L1 f v e0 l (acc ++ [x]) (by rw [List.length_append]; simp only [List.length_cons, List.length_nil]; omega)
  rw [List.append_assoc] at this
  exact this
section
variable {N : Nat} {t : ByteArray} (ht : t.size ≤ 33554432) (hN : 33554467 ≤ N) {l : List TokV} {f : Option FltV} (h : LexR t 0 (1, 1) l f)
include ht hN h
theorem lex_scan_eq : m_lex_Scan N t = some (scanR l f) := by
 have := h.facts (by omega)
 rw [m_lex_Scan, lex_each_eq ht (by omega) (by omega) h (by omega), Option.bind_some, scan_L1 f _ _ l [] (by simp; omega)]
 rfl
end
theorem awake_true : m_l06_awake 33554467 = some true := by decide +kernel
theorem scanR_err {t : ByteArray} {l : List TokV} {f : Option FltV} (h : LexR t 0 (1, 1) l f) : (scanR l f).2 = f ∧ ∀ x, f = some x → x.1 ≠ 0 := by
 have := h.facts (by omega)
 exact ⟨by cases f <;> rfl, this.2.2⟩
theorem escL_rng : ∀ {xs : List Int}, (∀ x ∈ xs, 0 ≤ x ∧ x < 256) → ∀ x ∈ escL xs, 0 ≤ x ∧ x < 256
 | [], _, x, hx => by cases hx
 | c :: r, h, x, hx => by
  have hr := escL_rng (xs := r) fun y hy => h y (List.mem_cons_of_mem _ hy)
  have hc := h c List.mem_cons_self
  rw [escL] at hx
  split at hx
  ·simp only [List.mem_cons] at hx
   rcases hx with rfl | rfl | hx
   ·decide
   ·decide
   ·exact hr x hx
  ·split at hx
   ·simp only [List.mem_cons] at hx
    rcases hx with rfl | rfl | hx
    ·decide
    ·decide
    ·exact hr x hx
   ·simp only [List.mem_cons] at hx
    rcases hx with rfl | hx
    ·exact hc
    ·exact hr x hx
theorem qtS_esc : ∀ (xs r : List Int), 10 ∉ xs → qtS (escL xs ++ 34 :: r) = some ((escL xs).length + 1, xs)
 | [], r, _ => by
  rw [escL, List.nil_append, qtS_cons, if_pos rfl]; rfl
 | c :: xs, r, h => by
  have h1 : 10 ∉ xs := fun e => h (List.mem_cons_of_mem _ e)
  have h2 : c ≠ 10 := fun e => h (by rw [e]; exact List.mem_cons_self)
  have ih := qtS_esc xs r h1
  rw [escL]
  by_cases c92 : c = 92
  ·rw [if_pos c92, List.cons_append, List.cons_append, qtS_cons, if_neg (by decide), if_neg (by decide), if_pos rfl]
   dsimp only
   rw [if_pos (.inr rfl), ih, c92]; rfl
  ·rw [if_neg c92]
   by_cases c34 : c = 34
   ·rw [if_pos c34, List.cons_append, List.cons_append, qtS_cons, if_neg (by decide), if_neg (by decide), if_pos rfl]
    dsimp only
    rw [if_pos (.inl rfl), ih, c34]; rfl
   ·rw [if_neg c34, List.cons_append, qtS_cons, if_neg c34, if_neg h2, if_neg c92, ih]; rfl
def quoB (s : ByteArray) : ByteArray := bstr (34 :: (escL (sints s) ++ [34]))
theorem quoB_sints (s : ByteArray) : sints (quoB s) = 34 :: (escL (sints s) ++ [34]) := by
 rw [quoB, sints_bstr]
 intro x hx
 rcases List.mem_cons.1 hx with rfl | hx
 ·decide
 ·rcases List.mem_append.1 hx with hx | hx
  ·exact escL_rng (fun y hy => sints_rng hy) x hx
  ·rw [List.mem_singleton.1 hx]; decide
theorem tokS_quote {q s : ByteArray} {r : List Int} (hq : sints q = 34 :: (escL (sints s) ++ 34 :: r)) (h : 10 ∉ sints s) : tokS q = ((escL (sints s)).length + 2, (3, s), (0, ⟨#[]⟩)) := by
 rw [tokS, hq]
 have e1 : (34 :: (escL (sints s) ++ 34 :: r)).headD 0 = 34 := rfl
 have e2 : (34 :: (escL (sints s) ++ 34 :: r)).drop 1 = escL (sints s) ++ 34 :: r := rfl
 rw [e1, e2, if_neg (by decide), if_neg (by decide), if_pos rfl, qtS_esc _ r h]
 dsimp only
 rw [bstr_sints, show 1 + ((escL (sints s)).length + 1) = (escL (sints s)).length + 2 by omega]
end Go.Proofs.YtnfegieaaaigmaaGreatDoor
