/-
  What functions of the program compute, as plain Lean functions (m_..), and proofs that they compute it (c_..). Printed by a program of the author; no conditions.
-/
import Derived.Test.YtnfegieaaaigmaaGreatDoorQueryParseBFloat
import Derived.Test.YtnfegieaaaigmaaGreatDoorProg
import Derived.Test.YtnfegieaaaigmaaGreatDoorQueryParseBArr
import Derived.Test.YtnfegieaaaigmaaGreatDoorQueryParseBAsP
import Derived.Test.YtnfegieaaaigmaaGreatDoorQueryParseBBrief
import Derived.Test.YtnfegieaaaigmaaGreatDoorQueryParseBEq4
import Derived.Test.YtnfegieaaaigmaaGreatDoorQueryParseBEqs
import Derived.Test.YtnfegieaaaigmaaGreatDoorQueryParseBErr
import Derived.Test.YtnfegieaaaigmaaGreatDoorQueryParseBThree
import Derived.Test.YtnfegieaaaigmaaGreatDoorQueryParseF2
set_option linter.unusedVariables false
set_option linter.unusedSectionVars false
set_option maxRecDepth 100000
set_option maxHeartbeats 2000000
namespace Go.Proofs.YtnfegieaaaigmaaGreatDoor
open Go Go.RowKit

def m_r23_Reader_prune_J1 (r_30 : (ByteArray × ((List (Int × ByteArray × Int × Int)) × (Int × Int × Int × ByteArray) × Int × (Int × Int × Int × ByteArray)))) (q_41 : Int) (q_42 : List (ByteArray × ByteArray)) (q_46 : List (ByteArray × ByteArray)) (q_50 : Int) (q_51 : List ByteArray) (q_55 : Bool) (q_56 : Bool) : Option ((Int × (List (ByteArray × ByteArray)) × (List (ByteArray × ByteArray)) × Int × (List ByteArray) × (Bool × Bool)) × ((List (Int × ByteArray × Int × Int)) × (Int × Int × Int × ByteArray) × Int × (Int × Int × Int × ByteArray))) :=
  some ((q_41, q_42, q_46, q_50, q_51, (q_55, q_56)), (r_30.2.1, (r_30.2.2.1.1, r_30.2.2.1.2.1, r_30.2.2.1.2.2.1, r_30.2.2.1.2.2.2), r_30.2.2.2.1, (r_30.2.2.2.2.1, r_30.2.2.2.2.2.1, r_30.2.2.2.2.2.2.1, r_30.2.2.2.2.2.2.2)))
def m_r23_Reader_prune (N : Nat) (p0_r : ((List (Int × ByteArray × Int × Int)) × (Int × Int × Int × ByteArray) × Int × (Int × Int × Int × ByteArray))) (p1_q : (Int × (List (ByteArray × ByteArray)) × (List (ByteArray × ByteArray)) × Int × (List ByteArray) × (Bool × Bool))) : Option ((Int × (List (ByteArray × ByteArray)) × (List (ByteArray × ByteArray)) × Int × (List ByteArray) × (Bool × Bool)) × ((List (Int × ByteArray × Int × Int)) × (Int × Int × Int × ByteArray) × Int × (Int × Int × Int × ByteArray))) :=
  (m_r23_Reader_one N (p0_r.1, (p0_r.2.1.1, p0_r.2.1.2.1, p0_r.2.1.2.2.1, p0_r.2.1.2.2.2), p0_r.2.2.1, (p0_r.2.2.2.1, p0_r.2.2.2.2.1, p0_r.2.2.2.2.2.1, p0_r.2.2.2.2.2.2)) ([⟨#[98, 97, 114, 114, 101, 110]⟩, ⟨#[97, 112, 97, 114, 116]⟩] : List ByteArray)).bind fun r_16 => (m_r23_Reader_one N (r_16.2.1, (r_16.2.2.1.1, r_16.2.2.1.2.1, r_16.2.2.1.2.2.1, r_16.2.2.1.2.2.2), r_16.2.2.2.1, (r_16.2.2.2.2.1, r_16.2.2.2.2.2.1, r_16.2.2.2.2.2.2.1, r_16.2.2.2.2.2.2.2)) ([⟨#[111, 110]⟩, ⟨#[111, 102, 102]⟩] : List ByteArray)).bind fun r_30 => if (decide (r_16.1 = (⟨#[98, 97, 114, 114, 101, 110]⟩))) = true then (m_r23_Reader_prune_J1 r_30 p1_q.1 p1_q.2.1 p1_q.2.2.1 p1_q.2.2.2.1 p1_q.2.2.2.2.1 (decide (r_30.1 = (⟨#[111, 110]⟩))) p1_q.2.2.2.2.2.2) else (m_r23_Reader_prune_J1 r_30 p1_q.1 p1_q.2.1 p1_q.2.2.1 p1_q.2.2.2.1 p1_q.2.2.2.2.1 p1_q.2.2.2.2.2.1 (decide (r_30.1 = (⟨#[111, 110]⟩))))
theorem c_r23_Reader_prune {N g0 cap0_2 cap1_0 cap1_2 cap1_4 : Nat} {a0_2 a1_0 a1_2 a1_4 : Option Addr} {col : Col} {w0 : World} {p0_r : ((List (Int × ByteArray × Int × Int)) × (Int × Int × Int × ByteArray) × Int × (Int × Int × Int × ByteArray))} {p1_q : (Int × (List (ByteArray × ByteArray)) × (List (ByteArray × ByteArray)) × Int × (List ByteArray) × (Bool × Bool))} {r : ((Int × (List (ByteArray × ByteArray)) × (List (ByteArray × ByteArray)) × Int × (List ByteArray) × (Bool × Bool)) × ((List (Int × ByteArray × Int × Int)) × (Int × Int × Int × ByteArray) × Int × (Int × Int × Int × ByteArray)))} (qc0 qc0_1 : Nat) (hm : m_r23_Reader_prune N p0_r p1_q = some r) (hd : dstB [qc0, qc0_1] = true) (h0_2 : Own (Rep.pair (Rep.int .i8) (Rep.pair Rep.str (Rep.pair (Rep.int .i64) (Rep.int .i64)))) 38 qc0_1 col w0 a0_2 cap0_2 p0_r.1) (hb0 : Box 77 qc0 col w0 g0 #[(.slice a0_2 p0_r.1.length cap0_2), (.int .i64 p0_r.2.1.1), (.int .i64 p0_r.2.1.2.1), (.int .i64 p0_r.2.1.2.2.1), (.string p0_r.2.1.2.2.2), (.int .i64 p0_r.2.2.1), (.int .i64 p0_r.2.2.2.1), (.int .i64 p0_r.2.2.2.2.1), (.int .i64 p0_r.2.2.2.2.2.1), (.string p0_r.2.2.2.2.2.2)]) (h1_0 : Sl (Rep.pair Rep.str Rep.str) col w0 a1_0 cap1_0 p1_q.2.1) (h1_2 : Sl (Rep.pair Rep.str Rep.str) col w0 a1_2 cap1_2 p1_q.2.2.1) (h1_4 : Sl Rep.str col w0 a1_4 cap1_4 p1_q.2.2.2.2.1) :
    Calls Tryz.prog 46 #[(.pointer (some ⟨g0, 0, none⟩)), (.agg #[(.int .i8 p1_q.1), (.slice a1_0 p1_q.2.1.length cap1_0), (.slice a1_2 p1_q.2.2.1.length cap1_2), (.int .i8 p1_q.2.2.2.1), (.slice a1_4 p1_q.2.2.2.2.1.length cap1_4), (.bool p1_q.2.2.2.2.2.1), (.bool p1_q.2.2.2.2.2.2)])] w0 (fun e w' => ∃ (col' : Col) (ra1 : Option Addr) (rc2 : Nat) (ra4 : Option Addr) (rc5 : Nat) (ra7 : Option Addr) (rc8 : Nat) (oa10 : Option Addr) (oc11 : Nat), e = .returned ((.agg #[(.int .i8 r.1.1), (.slice ra1 r.1.2.1.length rc2), (.slice ra4 r.1.2.2.1.length rc5), (.int .i8 r.1.2.2.2.1), (.slice ra7 r.1.2.2.2.2.1.length rc8), (.bool r.1.2.2.2.2.2.1), (.bool r.1.2.2.2.2.2.2)])) ∧ KeepP (pS [qc0, qc0_1]) col w0 col' w' ∧ Sl (Rep.pair Rep.str Rep.str) col' w' ra1 rc2 r.1.2.1 ∧ Sl (Rep.pair Rep.str Rep.str) col' w' ra4 rc5 r.1.2.2.1 ∧ Sl Rep.str col' w' ra7 rc8 r.1.2.2.2.2.1 ∧ Own (Rep.pair (Rep.int .i8) (Rep.pair Rep.str (Rep.pair (Rep.int .i64) (Rep.int .i64)))) 38 qc0_1 col' w' oa10 oc11 r.2.1 ∧ Box 77 qc0 col' w' g0 #[(.slice oa10 r.2.1.length oc11), (.int .i64 r.2.2.1.1), (.int .i64 r.2.2.1.2.1), (.int .i64 r.2.2.1.2.2.1), (.string r.2.2.1.2.2.2), (.int .i64 r.2.2.2.1), (.int .i64 r.2.2.2.2.1), (.int .i64 r.2.2.2.2.2.1), (.int .i64 r.2.2.2.2.2.2.1), (.string r.2.2.2.2.2.2.2)]) := by
 refine calls_ofR (m := 23) Tryz.func46 rfl rfl rfl ?_;rw [m_r23_Reader_prune.eq_1] at hm;have hst := St.startL (l := [qc0, qc0_1]) rfl col w0;replace hb0 := hb0.startL (dst_nz hd 0 rfl) (dst_ix hd 0 rfl);replace h0_2 := h0_2.startL (dst_nz hd 1 rfl) (dst_ix hd 1 rfl);refine go ?_;refine l_boxA (col := (colL [qc0, qc0_1] col)) 1 rfl ?_;intro g_1 w_2 col_3 hg_4 hb_5;refine l_allocA (col := col_3) #[(.int .i8 0), (.slice none (([] : List (ByteArray × ByteArray)).length) 0), (.slice none (([] : List (ByteArray × ByteArray)).length) 0), (.int .i8 0), (.slice none (([] : List ByteArray).length) 0), (.bool false), (.bool false)] 2 Tryz.zeroValue81 ?_;intro g_6 w_7 col_8 hg_9 hb_10;refine go ?_;refine l_litS (col := col_8) ([⟨#[98, 97, 114, 114, 101, 110]⟩, ⟨#[97, 112, 97, 114, 116]⟩] : List ByteArray) 3 ?_;intro a_11 w_12 col_13 hg_14 h_15;replace h0_2 := ((h0_2.gr hg_4).gr hg_9).gr hg_14;replace h0_2 := h0_2.froz 3 (by decide);replace h_15 := (h_15).toSlF Froz.str;replace hb0 := ((hb0.gr hg_4).gr hg_9).gr hg_14;replace hb0 := hb0.froz 3 (by decide);replace hb_5 := (hb_5.gr hg_9).gr hg_14;replace hb_5 := hb_5.froz 3 (by decide);replace hb_10 := hb_10.gr hg_14;replace hb_10 := hb_10.froz 3 (by decide);replace hst := ((hst.grow hg_4).grow hg_9).grow hg_14;replace hst := hst.froz 3 (by decide) (by decide);obtain ⟨r_16, hr_17, hm⟩ := bZ hm;refine lcA (c_r23_Reader_one 440 441 hr_17 rfl h0_2 hb0 h_15) ?_;rintro _ w_22 ⟨col_24, oa_18, oc_19, rfl, hg_23, oh_20, ohb_21⟩;refine ⟨_, rfl, go ?_⟩;refine l_litS (col := col_24) ([⟨#[111, 110]⟩, ⟨#[111, 102, 102]⟩] : List ByteArray) 4 ?_;intro a_25 w_26 col_27 hg_28 h_29;replace oh_20 := oh_20.gr hg_28;replace oh_20 := oh_20.froz 4 (by decide);replace h_29 := (h_29).toSlF Froz.str;replace ohb_21 := ohb_21.gr hg_28;replace ohb_21 := ohb_21.froz 4 (by decide);replace hb_5 := (hb_5.kpp hg_23).gr hg_28;replace hb_5 := hb_5.froz 4 (by decide);replace hb_10 := (hb_10.kpp hg_23).gr hg_28;replace hb_10 := hb_10.froz 4 (by decide);replace hst := (hst.kpp hg_23).grow hg_28;replace hst := hst.froz 4 (by decide) (by decide);obtain ⟨r_30, hr_31, hm⟩ := bZ hm;refine lcA (c_r23_Reader_one 440 441 hr_31 rfl oh_20 ohb_21 h_29) ?_;rintro _ w_36 ⟨col_38, oa_32, oc_33, rfl, hg_37, oh_34, ohb_35⟩;refine ⟨_, rfl, ?_⟩;refine lV _ (r_eqlS _ _ Tryz.underlying9 rfl rfl) <| lAB rfl <| lnil <| wseq ?_;replace h1_0 := h1_0.keep (Stay.startL [qc0, qc0_1] col w0)
 replace h1_2 := h1_2.keep (Stay.startL [qc0, qc0_1] col w0);replace h1_4 := h1_4.keep (Stay.startL [qc0, qc0_1] col w0);replace hb_5 := hb_5.kpp hg_37;replace hb_10 := hb_10.kpp hg_37;replace hst := hst.kpp hg_37;refine Wp.cutK [3, 4, 1000000] (fun f w_39 => ∃ col_40 q_41 a_43 cap_44 q_42 a_47 cap_48 q_46 q_50 a_52 cap_53 q_51 q_55 q_56, m_r23_Reader_prune_J1 r_30 q_41 q_42 q_46 q_50 q_51 q_55 q_56 = some r ∧ St w0 (colL [qc0, qc0_1] col) col_40 w_39 ∧ Sl (Rep.pair Rep.str Rep.str) col_40 w_39 a_43 cap_44 q_42 ∧ Sl (Rep.pair Rep.str Rep.str) col_40 w_39 a_47 cap_48 q_46 ∧ Sl Rep.str col_40 w_39 a_52 cap_53 q_51 ∧ Box 81 1 col_40 w_39 g_1 #[(.int .i8 q_41), (.slice a_43 q_42.length cap_44), (.slice a_47 q_46.length cap_48), (.int .i8 q_50), (.slice a_52 q_51.length cap_53), (.bool q_55), (.bool q_56)] ∧ Box 81 2 col_40 w_39 g_6 #[(.int .i8 0), (.slice none (([] : List (ByteArray × ByteArray)).length) 0), (.slice none (([] : List (ByteArray × ByteArray)).length) 0), (.int .i8 0), (.slice none (([] : List ByteArray).length) 0), (.bool false), (.bool false)] ∧ Own (Rep.pair (Rep.int .i8) (Rep.pair Rep.str (Rep.pair (Rep.int .i64) (Rep.int .i64)))) 38 441 col_40 w_39 oa_32 oc_33 r_30.2.1 ∧ Box 77 440 col_40 w_39 g0 #[(.slice oa_32 r_30.2.1.length oc_33), (.int .i64 r_30.2.2.1.1), (.int .i64 r_30.2.2.1.2.1), (.int .i64 r_30.2.2.1.2.2.1), (.string r_30.2.2.1.2.2.2), (.int .i64 r_30.2.2.2.1), (.int .i64 r_30.2.2.2.2.1), (.int .i64 r_30.2.2.2.2.2.1), (.int .i64 r_30.2.2.2.2.2.2.1), (.string r_30.2.2.2.2.2.2.2)]) ?_ ?_
 ·intro f w_39 hJ;obtain ⟨col_40, q_41, a_43, cap_44, q_42, a_47, cap_48, q_46, q_50, a_52, cap_53, q_51, q_55, q_56, hm, hst, h_45, h_49, h_54, hb_5, hb_10, oh_34, ohb_35⟩ := hJ;rw [m_r23_Reader_prune_J1.eq_1] at hm;refine go ?_;refine lV _ (r_ldB Tryz.isAgg81 Tryz.sizeOf81 hb_5) <| l_bsA hb_10 ?_;intro w_57 hk_58 hs_59 hb_60;refine go ?_;cases hm;replace h_45 := h_45.kp hk_58;replace h_49 := h_49.kp hk_58;replace h_54 := h_54.kp hk_58;replace oh_34 := oh_34.kp hk_58;replace ohb_35 := ohb_35.kp hk_58;replace hst := hst.kp hk_58 hs_59;exact ⟨rfl, _, res_a rfl rfl Tryz.isAgg81 Tryz.sizeOf81 rfl rfl hb_60.atN, colFL w0.heap.size [qc0, qc0_1] col col_40 (fun n => bif Nat.beq n 441 then qc0_1 else bif Nat.beq n 440 then qc0 else 0), a_43, cap_44, a_47, cap_48, a_52, cap_53, oa_32, oc_33, rfl, hst.finL rfl (fun n => bif Nat.beq n 441 then qc0_1 else bif Nat.beq n 440 then qc0 else 0), hst.finSlL (g := (fun n => bif Nat.beq n 441 then qc0_1 else bif Nat.beq n 440 then qc0 else 0)) rfl h_45, hst.finSlL (g := (fun n => bif Nat.beq n 441 then qc0_1 else bif Nat.beq n 440 then qc0 else 0)) rfl h_49, hst.finSlL (g := (fun n => bif Nat.beq n 441 then qc0_1 else bif Nat.beq n 440 then qc0 else 0)) rfl h_54, hst.finOwnL (g := (fun n => bif Nat.beq n 441 then qc0_1 else bif Nat.beq n 440 then qc0 else 0)) rfl oh_34 (by decide) (by decide) rfl, hst.finBoxL (g := (fun n => bif Nat.beq n 441 then qc0_1 else bif Nat.beq n 440 then qc0 else 0)) ohb_35 (by decide) (by decide) rfl⟩
 refine go ?_;refine wcb hm (fun hb hm => go ?_) fun hb hm => go ?_
 ·refine lFa ⟨_, _, rfl⟩ ?_;refine lV (.pointer (((some (⟨g_1, 0, none⟩ : Addr)).map (·.add 5)).map (·.add 0))) (r_idxA (sz := 1) (j := 0) Tryz.underlying79 Tryz.sizeOf4 rfl rfl (by decide) (by decide) (sptr_addr ⟨_, _, rfl⟩)) <| l_bstoreF (off := 5) (v := (.bool (decide (r_30.1 = (⟨#[111, 110]⟩))))) hb_5 Tryz.sizeOf4 rfl rfl (by intro u hu; simp only [Value.cells, List.mem_cons, List.not_mem_nil, or_false] at hu; subst hu; rfl) rfl rfl ?_;intro w_61 hk_62 hs_63 hb_64;replace hb_64 : Box 81 1 col_38 w_61 g_1 #[(.int .i8 p1_q.1), (.slice a1_0 p1_q.2.1.length cap1_0), (.slice a1_2 p1_q.2.2.1.length cap1_2), (.int .i8 p1_q.2.2.2.1), (.slice a1_4 p1_q.2.2.2.2.1.length cap1_4), (.bool (decide (r_30.1 = (⟨#[111, 110]⟩)))), (.bool p1_q.2.2.2.2.2.2)] := hb_64;refine lnil ?_;replace oh_34 := oh_34.kp hk_62;replace ohb_35 := ohb_35.kp hk_62;replace hb_10 := hb_10.kp hk_62;replace hst := hst.kp hk_62 hs_63;exact ⟨rfl, _, _, _, _, _, _, _, _, _, _, _, _, _, _, hm, hst, (h1_0.ks hst), (h1_2.ks hst), (h1_4.ks hst), hb_64, hb_10, oh_34, ohb_35⟩
 refine lFa ⟨_, _, rfl⟩ ?_;refine lV (.pointer (((some (⟨g_1, 0, none⟩ : Addr)).map (·.add 5)).map (·.add 1))) (r_idxA (sz := 1) (j := 1) Tryz.underlying79 Tryz.sizeOf4 rfl rfl (by decide) (by decide) (sptr_addr ⟨_, _, rfl⟩)) <| l_bstoreF (off := 6) (v := (.bool (decide (r_30.1 = (⟨#[111, 110]⟩))))) hb_5 Tryz.sizeOf4 rfl rfl (by intro u hu; simp only [Value.cells, List.mem_cons, List.not_mem_nil, or_false] at hu; subst hu; rfl) rfl rfl ?_;intro w_65 hk_66 hs_67 hb_68;replace hb_68 : Box 81 1 col_38 w_65 g_1 #[(.int .i8 p1_q.1), (.slice a1_0 p1_q.2.1.length cap1_0), (.slice a1_2 p1_q.2.2.1.length cap1_2), (.int .i8 p1_q.2.2.2.1), (.slice a1_4 p1_q.2.2.2.2.1.length cap1_4), (.bool p1_q.2.2.2.2.2.1), (.bool (decide (r_30.1 = (⟨#[111, 110]⟩))))] := hb_68;refine lnil ?_;replace oh_34 := oh_34.kp hk_66;replace ohb_35 := ohb_35.kp hk_66;replace hb_10 := hb_10.kp hk_66;replace hst := hst.kp hk_66 hs_67;exact ⟨rfl, _, _, _, _, _, _, _, _, _, _, _, _, _, _, hm, hst, (h1_0.ks hst), (h1_2.ks hst), (h1_4.ks hst), hb_68, hb_10, oh_34, ohb_35⟩
def m_r23_Reader_pairs_L1 (N : Nat)  : Nat → (List (Int × ByteArray × Int × Int)) → Int → Int → Int → ByteArray → Int → Int → Int → Int → ByteArray → (List (ByteArray × ByteArray)) → Option ((List (ByteArray × ByteArray)) × ((List (Int × ByteArray × Int × Int)) × (Int × Int × Int × ByteArray) × Int × (Int × Int × Int × ByteArray)))
  | 0, _, _, _, _, _, _, _, _, _, _, _ => none
  | n_1 + 1, r_4, r_8, r_9, r_10, r_11, r_12, r_13, r_14, r_15, r_16, l_17 => (m_r23_Reader_take (r_4, (r_8, r_9, r_10, r_11), r_12, (r_13, r_14, r_15, r_16)) 1 (⟨#[]⟩)).bind fun r_21 => (m_r23_Reader_take (r_21.2.1, (r_21.2.2.1.1, r_21.2.2.1.2.1, r_21.2.2.1.2.2.1, r_21.2.2.1.2.2.2), r_21.2.2.2.1, (r_21.2.2.2.2.1, r_21.2.2.2.2.2.1, r_21.2.2.2.2.2.2.1, r_21.2.2.2.2.2.2.2)) 4 (⟨#[61]⟩)).bind fun r_39 => (m_r23_Reader_take (r_39.2.1, (r_39.2.2.1.1, r_39.2.2.1.2.1, r_39.2.2.1.2.2.1, r_39.2.2.1.2.2.2), r_39.2.2.2.1, (r_39.2.2.2.2.1, r_39.2.2.2.2.2.1, r_39.2.2.2.2.2.2.1, r_39.2.2.2.2.2.2.2)) 1 (⟨#[]⟩)).bind fun r_48 => chk ((l_17.length + [(r_21.1, r_48.1)].length) * 32 ≤ 140737488355328 ∧ l_17.length + [(r_21.1, r_48.1)].length ≤ maxLen) ((m_r23_Reader_is (r_48.2.1, (r_48.2.2.1.1, r_48.2.2.1.2.1, r_48.2.2.1.2.2.1, r_48.2.2.1.2.2.2), r_48.2.2.2.1, (r_48.2.2.2.2.1, r_48.2.2.2.2.2.1, r_48.2.2.2.2.2.2.1, r_48.2.2.2.2.2.2.2)) 4 (⟨#[44]⟩)).bind fun r_73 => if (!r_73) = true then (some (l_17 ++ [(r_21.1, r_48.1)], (r_48.2.1, (r_48.2.2.1.1, r_48.2.2.1.2.1, r_48.2.2.1.2.2.1, r_48.2.2.1.2.2.2), r_48.2.2.2.1, (r_48.2.2.2.2.1, r_48.2.2.2.2.2.1, r_48.2.2.2.2.2.2.1, r_48.2.2.2.2.2.2.2)))) else ((m_r23_Reader_take (r_48.2.1, (r_48.2.2.1.1, r_48.2.2.1.2.1, r_48.2.2.1.2.2.1, r_48.2.2.1.2.2.2), r_48.2.2.2.1, (r_48.2.2.2.2.1, r_48.2.2.2.2.2.1, r_48.2.2.2.2.2.2.1, r_48.2.2.2.2.2.2.2)) 4 (⟨#[44]⟩)).bind fun r_77 => (m_r23_Reader_pairs_L1 N n_1) r_77.2.1 r_77.2.2.1.1 r_77.2.2.1.2.1 r_77.2.2.1.2.2.1 r_77.2.2.1.2.2.2 r_77.2.2.2.1 r_77.2.2.2.2.1 r_77.2.2.2.2.2.1 r_77.2.2.2.2.2.2.1 r_77.2.2.2.2.2.2.2 (l_17 ++ [(r_21.1, r_48.1)])))
termination_by structural x => x
def m_r23_Reader_pairs (N : Nat) (p0_r : ((List (Int × ByteArray × Int × Int)) × (Int × Int × Int × ByteArray) × Int × (Int × Int × Int × ByteArray))) : Option ((List (ByteArray × ByteArray)) × ((List (Int × ByteArray × Int × Int)) × (Int × Int × Int × ByteArray) × Int × (Int × Int × Int × ByteArray))) :=
  m_r23_Reader_pairs_L1 N N p0_r.1 p0_r.2.1.1 p0_r.2.1.2.1 p0_r.2.1.2.2.1 p0_r.2.1.2.2.2 p0_r.2.2.1 p0_r.2.2.2.1 p0_r.2.2.2.2.1 p0_r.2.2.2.2.2.1 p0_r.2.2.2.2.2.2 ([] : List (ByteArray × ByteArray))
theorem c_r23_Reader_pairs {N g0 cap0_2 : Nat} {a0_2 : Option Addr} {col : Col} {w0 : World} {p0_r : ((List (Int × ByteArray × Int × Int)) × (Int × Int × Int × ByteArray) × Int × (Int × Int × Int × ByteArray))} {r : ((List (ByteArray × ByteArray)) × ((List (Int × ByteArray × Int × Int)) × (Int × Int × Int × ByteArray) × Int × (Int × Int × Int × ByteArray)))} (c1 qc0 qc0_1 : Nat) (hm : m_r23_Reader_pairs N p0_r = some r) (hd : dstB [qc0, qc0_1] = true) (h0_2 : Own (Rep.pair (Rep.int .i8) (Rep.pair Rep.str (Rep.pair (Rep.int .i64) (Rep.int .i64)))) 38 qc0_1 col w0 a0_2 cap0_2 p0_r.1) (hb0 : Box 77 qc0 col w0 g0 #[(.slice a0_2 p0_r.1.length cap0_2), (.int .i64 p0_r.2.1.1), (.int .i64 p0_r.2.1.2.1), (.int .i64 p0_r.2.1.2.2.1), (.string p0_r.2.1.2.2.2), (.int .i64 p0_r.2.2.1), (.int .i64 p0_r.2.2.2.1), (.int .i64 p0_r.2.2.2.2.1), (.int .i64 p0_r.2.2.2.2.2.1), (.string p0_r.2.2.2.2.2.2)]) :
    Calls Tryz.prog 47 #[(.pointer (some ⟨g0, 0, none⟩))] w0 (fun e w' => ∃ (col' : Col) (ra1 : Option Addr) (rc2 : Nat) (oa4 : Option Addr) (oc5 : Nat), e = .returned ((.slice ra1 r.1.length rc2)) ∧ KeepP (pS [qc0, qc0_1]) col w0 col' w' ∧ Own (Rep.pair Rep.str Rep.str) 88 c1 col' w' ra1 rc2 r.1 ∧ Own (Rep.pair (Rep.int .i8) (Rep.pair Rep.str (Rep.pair (Rep.int .i64) (Rep.int .i64)))) 38 qc0_1 col' w' oa4 oc5 r.2.1 ∧ Box 77 qc0 col' w' g0 #[(.slice oa4 r.2.1.length oc5), (.int .i64 r.2.2.1.1), (.int .i64 r.2.2.1.2.1), (.int .i64 r.2.2.1.2.2.1), (.string r.2.2.1.2.2.2), (.int .i64 r.2.2.2.1), (.int .i64 r.2.2.2.2.1), (.int .i64 r.2.2.2.2.2.1), (.int .i64 r.2.2.2.2.2.2.1), (.string r.2.2.2.2.2.2.2)]) := by
 refine calls_of1 2 (m := 25) Tryz.func47 rfl rfl rfl rfl rfl ?_;rw [m_r23_Reader_pairs.eq_1] at hm;have hst := St.startL (l := [qc0, qc0_1]) rfl col w0;replace hb0 := hb0.startL (dst_nz hd 0 rfl) (dst_ix hd 0 rfl);replace h0_2 := h0_2.startL (dst_nz hd 1 rfl) (dst_ix hd 1 rfl);refine go ?_;refine wloopK [0, 1000000] (fun n f w_2 => ∃ col_3 a_5 cap_6 r_4 r_8 r_9 r_10 r_11 r_12 r_13 r_14 r_15 r_16 a_18 cap_19 l_17 n_1, n_1 = n ∧ m_r23_Reader_pairs_L1 N n_1 r_4 r_8 r_9 r_10 r_11 r_12 r_13 r_14 r_15 r_16 l_17 = some r ∧ St w0 (colL [qc0, qc0_1] col) col_3 w_2 ∧ Own (Rep.pair (Rep.int .i8) (Rep.pair Rep.str (Rep.pair (Rep.int .i64) (Rep.int .i64)))) 38 441 col_3 w_2 a_5 cap_6 r_4 ∧ Box 77 440 col_3 w_2 g0 #[(.slice a_5 r_4.length cap_6), (.int .i64 r_8), (.int .i64 r_9), (.int .i64 r_10), (.string r_11), (.int .i64 r_12), (.int .i64 r_13), (.int .i64 r_14), (.int .i64 r_15), (.string r_16)] ∧ Own (Rep.pair Rep.str Rep.str) 88 1 col_3 w_2 a_18 cap_19 l_17 ∧ [3].map f = [.slice a_18 l_17.length cap_19]) N ⟨_, _, _, _, _, _, _, _, _, _, _, _, _, none, 0, _, _, rfl, hm, hst, h0_2, hb0, Own.nil, rfl⟩ ?_;clear hm; intro n f w_2 hI;obtain ⟨col_3, a_5, cap_6, r_4, r_8, r_9, r_10, r_11, r_12, r_13, r_14, r_15, r_16, a_18, cap_19, l_17, n_1, hn, hm, hst, h_7, hb0, h_20, hs⟩ := hI;subst hn;refine .lL [3] hs ?_
 cases n_1 with
 | zero => rw [m_r23_Reader_pairs_L1.eq_1] at hm; cases hm
 | succ n_1 =>
  rw [m_r23_Reader_pairs_L1.eq_2] at hm;refine go ?_;obtain ⟨r_21, hr_22, hm⟩ := bZ hm;refine lcA (c_r23_Reader_take 440 441 hr_22 rfl h_7 hb0) ?_;rintro _ w_27 ⟨col_29, oa_23, oc_24, rfl, hg_28, oh_25, ohb_26⟩;refine ⟨_, rfl, ?_⟩;refine lV (.agg #[(.string r_21.1), (.string (⟨#[]⟩))]) (r_build (l := [_, _]) (qs := [(0, 1), (1, 1)]) Tryz.underlying88 Tryz.zeroValue88 ⟨rfl, Tryz.sizeOf9, rfl, Tryz.sizeOf9, trivial⟩ rfl) <| l_allocA (col := col_29) #[(.string (⟨#[]⟩)), (.string (⟨#[]⟩))] 2 Tryz.zeroValue88 ?_;intro g_30 w_31 col_32 hg_33 hb_34;refine l_bsA hb_34 ?_;intro w_35 hk_36 hs_37 hb_38;refine go ?_;obtain ⟨r_39, hr_40, hm⟩ := bZ hm;replace oh_25 := (oh_25.gr hg_33).kp hk_36;replace ohb_26 := (ohb_26.gr hg_33).kp hk_36;refine lcA (c_r23_Reader_take 440 441 hr_40 rfl oh_25 ohb_26) ?_;rintro _ w_45 ⟨col_47, oa_41, oc_42, rfl, hg_46, oh_43, ohb_44⟩;refine ⟨_, rfl, go ?_⟩;obtain ⟨r_48, hr_49, hm⟩ := bZ hm;refine lcA (c_r23_Reader_take 440 441 hr_49 rfl oh_43 ohb_44) ?_;rintro _ w_54 ⟨col_56, oa_50, oc_51, rfl, hg_55, oh_52, ohb_53⟩;refine ⟨_, rfl, ?_⟩;refine lFa ⟨_, _, rfl⟩ ?_;replace hb_38 := (hb_38.kpp hg_46).kpp hg_55;refine l_bstoreF (off := 1) (v := (.string r_48.1)) hb_38 Tryz.sizeOf9 rfl rfl (by intro u hu; simp only [Value.cells, List.mem_cons, List.not_mem_nil, or_false] at hu; subst hu; rfl) rfl rfl ?_;intro w_57 hk_58 hs_59 hb_60;replace hb_60 : Box 88 2 col_56 w_57 g_30 #[(.string r_21.1), (.string r_48.1)] := hb_60;refine go ?_;refine lV _ (r_ldB Tryz.isAgg88 Tryz.sizeOf88 hb_60) <| l_litA (col := col_56) (r := (Rep.pair Rep.str Rep.str)) (xs := [(r_21.1, r_48.1)]) [(.agg #[(.string r_21.1), (.string r_48.1)])] 3 (RowsH.ofF (Rows.consF (r := (Rep.pair Rep.str Rep.str)) (x := (r_21.1, r_48.1)) (cs := [(.string r_21.1), (.string r_48.1)]) (rd_pairI (rd_str r_21.1) (rd_str r_48.1)) Rows.nil0)) ?_;intro a_61 w_62 col_63 hg_64 h_65;obtain ⟨hb_66, hm⟩ := chk_some hm;replace h_20 := ((((((h_20.kpp hg_28).gr hg_33).kp hk_36).kpp hg_46).kpp hg_55).kp hk_58).gr hg_64;refine l_appA h_20 (h_65.srcN (NB.pair NB.str NB.str)) hb_66 ?_;intro a_67 cap_68 w_69 col_70 hk_71 h_72;refine go ?_;obtain ⟨r_73, hr_74, hm⟩ := bZ hm;replace oh_52 := ((oh_52.kp hk_58).gr hg_64).kpp hk_71;replace ohb_53 := ((ohb_53.kp hk_58).gr hg_64).kpp hk_71
  refine lcA (c_r23_Reader_is 440 441 hr_74 (by decide) (by decide) oh_52 ohb_53) ?_;rintro _ w_75 ⟨rfl, hg_76⟩;refine ⟨_, rfl, ?_⟩;replace hg_76 : Grow col_70 w_69 col_70 w_75 := .of_below hg_76;refine go ?_;replace hst := ((((((((hst.kpp hg_28).grow hg_33).kp hk_36 hs_37).kpp hg_46).kpp hg_55).kp hk_58 hs_59).grow hg_64).kpp hk_71).grow hg_76;replace oh_52 := oh_52.gr hg_76;replace h_72 := h_72.gr hg_76;replace ohb_53 := ohb_53.gr hg_76;refine wcb hm (fun hb hm => go ?_) fun hb hm => go ?_
  ·cases hm;exact ⟨rfl, colFL w0.heap.size [qc0, qc0_1] col col_70 (fun n => bif Nat.beq n 1 then c1 else bif Nat.beq n 441 then qc0_1 else bif Nat.beq n 440 then qc0 else 0), a_67, cap_68, oa_50, oc_51, rfl, hst.finL rfl (fun n => bif Nat.beq n 1 then c1 else bif Nat.beq n 441 then qc0_1 else bif Nat.beq n 440 then qc0 else 0), hst.finOwnL (g := (fun n => bif Nat.beq n 1 then c1 else bif Nat.beq n 441 then qc0_1 else bif Nat.beq n 440 then qc0 else 0)) rfl h_72 (by decide) (by decide) rfl, hst.finOwnL (g := (fun n => bif Nat.beq n 1 then c1 else bif Nat.beq n 441 then qc0_1 else bif Nat.beq n 440 then qc0 else 0)) rfl oh_52 (by decide) (by decide) rfl, hst.finBoxL (g := (fun n => bif Nat.beq n 1 then c1 else bif Nat.beq n 441 then qc0_1 else bif Nat.beq n 440 then qc0 else 0)) ohb_53 (by decide) (by decide) rfl⟩
  obtain ⟨r_77, hr_78, hm⟩ := bZ hm;refine lcA (c_r23_Reader_take 440 441 hr_78 rfl oh_52 ohb_53) ?_;rintro _ w_83 ⟨col_85, oa_79, oc_80, rfl, hg_84, oh_81, ohb_82⟩;refine ⟨_, rfl, ?_⟩;refine lnil ?_;replace h_72 := h_72.kpp hg_84;replace hst := hst.kpp hg_84;exact ⟨n_1, by omega, rfl, ⟨_, _, _, _, _, _, _, _, _, _, _, _, _, _, _, _, _, rfl, hm, hst, oh_81, ohb_82, h_72, rfl⟩⟩
def m_r23_Reader_given (N : Nat) (p0_r : ((List (Int × ByteArray × Int × Int)) × (Int × Int × Int × ByteArray) × Int × (Int × Int × Int × ByteArray))) : Option ((List (ByteArray × ByteArray)) × ((List (Int × ByteArray × Int × Int)) × (Int × Int × Int × ByteArray) × Int × (Int × Int × Int × ByteArray))) :=
  (m_r23_Reader_is (p0_r.1, (p0_r.2.1.1, p0_r.2.1.2.1, p0_r.2.1.2.2.1, p0_r.2.1.2.2.2), p0_r.2.2.1, (p0_r.2.2.2.1, p0_r.2.2.2.2.1, p0_r.2.2.2.2.2.1, p0_r.2.2.2.2.2.2)) 4 (⟨#[124]⟩)).bind fun r_1 => if (!r_1) = true then (some (([] : List (ByteArray × ByteArray)), (p0_r.1, (p0_r.2.1.1, p0_r.2.1.2.1, p0_r.2.1.2.2.1, p0_r.2.1.2.2.2), p0_r.2.2.1, (p0_r.2.2.2.1, p0_r.2.2.2.2.1, p0_r.2.2.2.2.2.1, p0_r.2.2.2.2.2.2)))) else ((m_r23_Reader_take (p0_r.1, (p0_r.2.1.1, p0_r.2.1.2.1, p0_r.2.1.2.2.1, p0_r.2.1.2.2.2), p0_r.2.2.1, (p0_r.2.2.2.1, p0_r.2.2.2.2.1, p0_r.2.2.2.2.2.1, p0_r.2.2.2.2.2.2)) 4 (⟨#[124]⟩)).bind fun r_5 => (m_r23_Reader_pairs N (r_5.2.1, (r_5.2.2.1.1, r_5.2.2.1.2.1, r_5.2.2.1.2.2.1, r_5.2.2.1.2.2.2), r_5.2.2.2.1, (r_5.2.2.2.2.1, r_5.2.2.2.2.2.1, r_5.2.2.2.2.2.2.1, r_5.2.2.2.2.2.2.2))).bind fun r_14 => some (r_14.1, (r_14.2.1, (r_14.2.2.1.1, r_14.2.2.1.2.1, r_14.2.2.1.2.2.1, r_14.2.2.1.2.2.2), r_14.2.2.2.1, (r_14.2.2.2.2.1, r_14.2.2.2.2.2.1, r_14.2.2.2.2.2.2.1, r_14.2.2.2.2.2.2.2))))
theorem c_r23_Reader_given {N g0 cap0_2 : Nat} {a0_2 : Option Addr} {col : Col} {w0 : World} {p0_r : ((List (Int × ByteArray × Int × Int)) × (Int × Int × Int × ByteArray) × Int × (Int × Int × Int × ByteArray))} {r : ((List (ByteArray × ByteArray)) × ((List (Int × ByteArray × Int × Int)) × (Int × Int × Int × ByteArray) × Int × (Int × Int × Int × ByteArray)))} (c1 qc0 qc0_1 : Nat) (hm : m_r23_Reader_given N p0_r = some r) (hd : dstB [qc0, qc0_1] = true) (h0_2 : Own (Rep.pair (Rep.int .i8) (Rep.pair Rep.str (Rep.pair (Rep.int .i64) (Rep.int .i64)))) 38 qc0_1 col w0 a0_2 cap0_2 p0_r.1) (hb0 : Box 77 qc0 col w0 g0 #[(.slice a0_2 p0_r.1.length cap0_2), (.int .i64 p0_r.2.1.1), (.int .i64 p0_r.2.1.2.1), (.int .i64 p0_r.2.1.2.2.1), (.string p0_r.2.1.2.2.2), (.int .i64 p0_r.2.2.1), (.int .i64 p0_r.2.2.2.1), (.int .i64 p0_r.2.2.2.2.1), (.int .i64 p0_r.2.2.2.2.2.1), (.string p0_r.2.2.2.2.2.2)]) :
    Calls Tryz.prog 48 #[(.pointer (some ⟨g0, 0, none⟩))] w0 (fun e w' => ∃ (col' : Col) (ra1 : Option Addr) (rc2 : Nat) (oa4 : Option Addr) (oc5 : Nat), e = .returned ((.slice ra1 r.1.length rc2)) ∧ KeepP (pS [qc0, qc0_1]) col w0 col' w' ∧ Own (Rep.pair Rep.str Rep.str) 88 c1 col' w' ra1 rc2 r.1 ∧ Own (Rep.pair (Rep.int .i8) (Rep.pair Rep.str (Rep.pair (Rep.int .i64) (Rep.int .i64)))) 38 qc0_1 col' w' oa4 oc5 r.2.1 ∧ Box 77 qc0 col' w' g0 #[(.slice oa4 r.2.1.length oc5), (.int .i64 r.2.2.1.1), (.int .i64 r.2.2.1.2.1), (.int .i64 r.2.2.1.2.2.1), (.string r.2.2.1.2.2.2), (.int .i64 r.2.2.2.1), (.int .i64 r.2.2.2.2.1), (.int .i64 r.2.2.2.2.2.1), (.int .i64 r.2.2.2.2.2.2.1), (.string r.2.2.2.2.2.2.2)]) := by
 refine calls_of1 2 (m := 12) Tryz.func48 rfl rfl rfl rfl rfl ?_;rw [m_r23_Reader_given.eq_1] at hm;have hst := St.startL (l := [qc0, qc0_1]) rfl col w0;replace hb0 := hb0.startL (dst_nz hd 0 rfl) (dst_ix hd 0 rfl);replace h0_2 := h0_2.startL (dst_nz hd 1 rfl) (dst_ix hd 1 rfl);refine go ?_;obtain ⟨r_1, hr_2, hm⟩ := bZ hm;refine lcA (c_r23_Reader_is 440 441 hr_2 (by decide) (by decide) h0_2 hb0) ?_;rintro _ w_3 ⟨rfl, hg_4⟩;refine ⟨_, rfl, ?_⟩;replace hg_4 : Grow (colL [qc0, qc0_1] col) w0 (colL [qc0, qc0_1] col) w_3 := .of_below hg_4;refine go ?_;replace h0_2 := h0_2.gr hg_4;replace hb0 := hb0.gr hg_4;replace hst := hst.grow hg_4;refine wcb hm (fun hb hm => go ?_) fun hb hm => go ?_
 ·cases hm;exact ⟨rfl, colFL w0.heap.size [qc0, qc0_1] col (colL [qc0, qc0_1] col) (fun n => bif Nat.beq n 441 then qc0_1 else bif Nat.beq n 440 then qc0 else 0), none, 0, a0_2, cap0_2, rfl, hst.finL rfl (fun n => bif Nat.beq n 441 then qc0_1 else bif Nat.beq n 440 then qc0 else 0), Own.nil, hst.finOwnL (g := (fun n => bif Nat.beq n 441 then qc0_1 else bif Nat.beq n 440 then qc0 else 0)) rfl h0_2 (by decide) (by decide) rfl, hst.finBoxL (g := (fun n => bif Nat.beq n 441 then qc0_1 else bif Nat.beq n 440 then qc0 else 0)) hb0 (by decide) (by decide) rfl⟩
 obtain ⟨r_5, hr_6, hm⟩ := bZ hm;refine lcA (c_r23_Reader_take 440 441 hr_6 rfl h0_2 hb0) ?_;rintro _ w_11 ⟨col_13, oa_7, oc_8, rfl, hg_12, oh_9, ohb_10⟩;refine ⟨_, rfl, go ?_⟩;obtain ⟨r_14, hr_15, hm⟩ := bZ hm;refine lcA (c_r23_Reader_pairs 1 440 441 hr_15 rfl oh_9 ohb_10) ?_;rintro _ w_23 ⟨col_25, ra_16, rc_17, oa_19, oc_20, rfl, hg_24, rh_18, oh_21, ohb_22⟩;refine ⟨_, rfl, go ?_⟩;cases hm;replace hst := (hst.kpp hg_12).kpp hg_24;exact ⟨rfl, colFL w0.heap.size [qc0, qc0_1] col col_25 (fun n => bif Nat.beq n 1 then c1 else bif Nat.beq n 441 then qc0_1 else bif Nat.beq n 440 then qc0 else 0), ra_16, rc_17, oa_19, oc_20, rfl, hst.finL rfl (fun n => bif Nat.beq n 1 then c1 else bif Nat.beq n 441 then qc0_1 else bif Nat.beq n 440 then qc0 else 0), hst.finOwnL (g := (fun n => bif Nat.beq n 1 then c1 else bif Nat.beq n 441 then qc0_1 else bif Nat.beq n 440 then qc0 else 0)) rfl rh_18 (by decide) (by decide) rfl, hst.finOwnL (g := (fun n => bif Nat.beq n 1 then c1 else bif Nat.beq n 441 then qc0_1 else bif Nat.beq n 440 then qc0 else 0)) rfl oh_21 (by decide) (by decide) rfl, hst.finBoxL (g := (fun n => bif Nat.beq n 1 then c1 else bif Nat.beq n 441 then qc0_1 else bif Nat.beq n 440 then qc0 else 0)) ohb_22 (by decide) (by decide) rfl⟩
def m_r23_Parse_J1 (n_76 : Int) (kk_L1 : (Int → Int → Int → ByteArray → (List (Int × ByteArray × Int × Int)) → Int → Int → Int → ByteArray → Int → Int → Int → Int → ByteArray → Int → (List (ByteArray × ByteArray)) → (List (ByteArray × ByteArray)) → Int → (List ByteArray) → Bool → Bool → (List (Int × (List (ByteArray × ByteArray)) × (List (ByteArray × ByteArray)) × Int × (List ByteArray) × (Bool × Bool))) → Int → Option ((List (Int × (List (ByteArray × ByteArray)) × (List (ByteArray × ByteArray)) × Int × (List ByteArray) × (Bool × Bool))) × (Int × Int × Int × ByteArray)))) (v_79 : Int) (v_80 : Int) (v_81 : Int) (v_82 : ByteArray) (v_83 : List (Int × ByteArray × Int × Int)) (v_87 : Int) (v_88 : Int) (v_89 : Int) (v_90 : ByteArray) (v_91 : Int) (v_92 : Int) (v_93 : Int) (v_94 : Int) (v_95 : ByteArray) (q_96 : Int) (q_97 : List (ByteArray × ByteArray)) (q_101 : List (ByteArray × ByteArray)) (q_105 : Int) (q_106 : List ByteArray) (q_110 : Bool) (q_111 : Bool) (l_112 : List (Int × (List (ByteArray × ByteArray)) × (List (ByteArray × ByteArray)) × Int × (List ByteArray) × (Bool × Bool))) : Option ((List (Int × (List (ByteArray × ByteArray)) × (List (ByteArray × ByteArray)) × Int × (List ByteArray) × (Bool × Bool))) × (Int × Int × Int × ByteArray)) :=
  kk_L1 v_79 v_80 v_81 v_82 v_83 v_87 v_88 v_89 v_90 v_91 v_92 v_93 v_94 v_95 q_96 q_97 q_101 q_105 q_106 q_110 q_111 l_112 (IntKind.i64.wrap (n_76 + 1))
def m_r23_Parse_J3 (v_39 : Int) (v_40 : Int) (v_41 : Int) (v_42 : ByteArray) (l_72 : List (Int × (List (ByteArray × ByteArray)) × (List (ByteArray × ByteArray)) × Int × (List ByteArray) × (Bool × Bool))) (n_76 : Int) (kk_L1 : (Int → Int → Int → ByteArray → (List (Int × ByteArray × Int × Int)) → Int → Int → Int → ByteArray → Int → Int → Int → Int → ByteArray → Int → (List (ByteArray × ByteArray)) → (List (ByteArray × ByteArray)) → Int → (List ByteArray) → Bool → Bool → (List (Int × (List (ByteArray × ByteArray)) × (List (ByteArray × ByteArray)) × Int × (List ByteArray) × (Bool × Bool))) → Int → Option ((List (Int × (List (ByteArray × ByteArray)) × (List (ByteArray × ByteArray)) × Int × (List ByteArray) × (Bool × Bool))) × (Int × Int × Int × ByteArray)))) (v_165 : List (Int × ByteArray × Int × Int)) (v_169 : Int) (v_170 : Int) (v_171 : Int) (v_172 : ByteArray) (v_173 : Int) (v_174 : Int) (v_175 : Int) (v_176 : Int) (v_177 : ByteArray) (q_178 : Int) (q_179 : List (ByteArray × ByteArray)) (q_183 : List (ByteArray × ByteArray)) (q_187 : Int) (q_188 : List ByteArray) (q_192 : Bool) (q_193 : Bool) (ask_194 : Int) (ask_195 : List (ByteArray × ByteArray)) (ask_199 : List (ByteArray × ByteArray)) (ask_203 : Int) (ask_204 : List ByteArray) (ask_208 : Bool) (ask_209 : Bool) : Option ((List (Int × (List (ByteArray × ByteArray)) × (List (ByteArray × ByteArray)) × Int × (List ByteArray) × (Bool × Bool))) × (Int × Int × Int × ByteArray)) :=
  (m_r23_Reader_take (v_165, (v_169, v_170, v_171, v_172), v_173, (v_174, v_175, v_176, v_177)) 4 (⟨#[59]⟩)).bind fun r_210 => if (!decide (r_210.2.2.2.2.1 = 0)) = true then (some (([] : List (Int × (List (ByteArray × ByteArray)) × (List (ByteArray × ByteArray)) × Int × (List ByteArray) × (Bool × Bool))), (r_210.2.2.2.2.1, r_210.2.2.2.2.2.1, r_210.2.2.2.2.2.2.1, r_210.2.2.2.2.2.2.2))) else (if (!decide (ask_194 = 0)) = true then (chk ((l_72.length + [(ask_194, ask_195, ask_199, ask_203, ask_204, (ask_208, ask_209))].length) * 96 ≤ 140737488355328 ∧ l_72.length + [(ask_194, ask_195, ask_199, ask_203, ask_204, (ask_208, ask_209))].length ≤ maxLen) (m_r23_Parse_J1 n_76 kk_L1 v_39 v_40 v_41 v_42 r_210.2.1 r_210.2.2.1.1 r_210.2.2.1.2.1 r_210.2.2.1.2.2.1 r_210.2.2.1.2.2.2 r_210.2.2.2.1 r_210.2.2.2.2.1 r_210.2.2.2.2.2.1 r_210.2.2.2.2.2.2.1 r_210.2.2.2.2.2.2.2 q_178 q_179 q_183 q_187 q_188 q_192 q_193 (l_72 ++ [(ask_194, ask_195, ask_199, ask_203, ask_204, (ask_208, ask_209))]))) else (m_r23_Parse_J1 n_76 kk_L1 v_39 v_40 v_41 v_42 r_210.2.1 r_210.2.2.1.1 r_210.2.2.1.2.1 r_210.2.2.1.2.2.1 r_210.2.2.1.2.2.2 r_210.2.2.2.1 r_210.2.2.2.2.1 r_210.2.2.2.2.2.1 r_210.2.2.2.2.2.2.1 r_210.2.2.2.2.2.2.2 q_178 q_179 q_183 q_187 q_188 q_192 q_193 l_72))
def m_r23_Parse_J2 (N : Nat) (v_39 : Int) (v_40 : Int) (v_41 : Int) (v_42 : ByteArray) (q_56 : Int) (q_57 : List (ByteArray × ByteArray)) (q_61 : List (ByteArray × ByteArray)) (q_65 : Int) (q_66 : List ByteArray) (q_70 : Bool) (q_71 : Bool) (l_72 : List (Int × (List (ByteArray × ByteArray)) × (List (ByteArray × ByteArray)) × Int × (List ByteArray) × (Bool × Bool))) (n_76 : Int) (kk_L1 : (Int → Int → Int → ByteArray → (List (Int × ByteArray × Int × Int)) → Int → Int → Int → ByteArray → Int → Int → Int → Int → ByteArray → Int → (List (ByteArray × ByteArray)) → (List (ByteArray × ByteArray)) → Int → (List ByteArray) → Bool → Bool → (List (Int × (List (ByteArray × ByteArray)) × (List (ByteArray × ByteArray)) × Int × (List ByteArray) × (Bool × Bool))) → Int → Option ((List (Int × (List (ByteArray × ByteArray)) × (List (ByteArray × ByteArray)) × Int × (List ByteArray) × (Bool × Bool))) × (Int × Int × Int × ByteArray)))) (v_126 : List (Int × ByteArray × Int × Int)) (v_130 : Int) (v_131 : Int) (v_132 : Int) (v_133 : ByteArray) (v_134 : Int) (v_135 : Int) (v_136 : Int) (v_137 : Int) (v_138 : ByteArray) : Option ((List (Int × (List (ByteArray × ByteArray)) × (List (ByteArray × ByteArray)) × Int × (List ByteArray) × (Bool × Bool))) × (Int × Int × Int × ByteArray)) :=
  chk ((([] : List ByteArray).length + q_66.length) * 16 ≤ 140737488355328 ∧ ([] : List ByteArray).length + q_66.length ≤ maxLen) ((m_r23_Reader_one N (v_126, (v_130, v_131, v_132, v_133), v_134, (v_135, v_136, v_137, v_138)) ([⟨#[117, 115, 101]⟩, ⟨#[112, 114, 117, 110, 101]⟩, ⟨#[99, 104, 97, 110, 99, 101]⟩, ⟨#[97, 115, 107]⟩, ⟨#[97, 108, 108]⟩] : List ByteArray)).bind fun r_242 => if (decide (r_242.1 = (⟨#[117, 115, 101]⟩))) = true then ((m_r23_Reader_use N (r_242.2.1, (r_242.2.2.1.1, r_242.2.2.1.2.1, r_242.2.2.1.2.2.1, r_242.2.2.1.2.2.2), r_242.2.2.2.1, (r_242.2.2.2.2.1, r_242.2.2.2.2.2.1, r_242.2.2.2.2.2.2.1, r_242.2.2.2.2.2.2.2)) (q_56, q_57, q_61, q_65, q_66, (q_70, q_71))).bind fun r_251 => m_r23_Parse_J3 v_39 v_40 v_41 v_42 l_72 n_76 kk_L1 r_251.2.1 r_251.2.2.1.1 r_251.2.2.1.2.1 r_251.2.2.1.2.2.1 r_251.2.2.1.2.2.2 r_251.2.2.2.1 r_251.2.2.2.2.1 r_251.2.2.2.2.2.1 r_251.2.2.2.2.2.2.1 r_251.2.2.2.2.2.2.2 r_251.1.1 r_251.1.2.1 r_251.1.2.2.1 r_251.1.2.2.2.1 r_251.1.2.2.2.2.1 r_251.1.2.2.2.2.2.1 r_251.1.2.2.2.2.2.2 q_56 q_57 q_61 q_65 (([] : List ByteArray) ++ q_66) q_70 q_71) else (if (decide (r_242.1 = (⟨#[112, 114, 117, 110, 101]⟩))) = true then ((m_r23_Reader_prune N (r_242.2.1, (r_242.2.2.1.1, r_242.2.2.1.2.1, r_242.2.2.1.2.2.1, r_242.2.2.1.2.2.2), r_242.2.2.2.1, (r_242.2.2.2.2.1, r_242.2.2.2.2.2.1, r_242.2.2.2.2.2.2.1, r_242.2.2.2.2.2.2.2)) (q_56, q_57, q_61, q_65, q_66, (q_70, q_71))).bind fun r_273 => m_r23_Parse_J3 v_39 v_40 v_41 v_42 l_72 n_76 kk_L1 r_273.2.1 r_273.2.2.1.1 r_273.2.2.1.2.1 r_273.2.2.1.2.2.1 r_273.2.2.1.2.2.2 r_273.2.2.2.1 r_273.2.2.2.2.1 r_273.2.2.2.2.2.1 r_273.2.2.2.2.2.2.1 r_273.2.2.2.2.2.2.2 r_273.1.1 r_273.1.2.1 r_273.1.2.2.1 r_273.1.2.2.2.1 r_273.1.2.2.2.2.1 r_273.1.2.2.2.2.2.1 r_273.1.2.2.2.2.2.2 q_56 q_57 q_61 q_65 (([] : List ByteArray) ++ q_66) q_70 q_71) else (if (decide (r_242.1 = (⟨#[99, 104, 97, 110, 99, 101]⟩))) = true then ((m_r23_Reader_is (r_242.2.1, (r_242.2.2.1.1, r_242.2.2.1.2.1, r_242.2.2.1.2.2.1, r_242.2.2.1.2.2.2), r_242.2.2.2.1, (r_242.2.2.2.2.1, r_242.2.2.2.2.2.1, r_242.2.2.2.2.2.2.1, r_242.2.2.2.2.2.2.2)) 4 (⟨#[59]⟩)).bind fun r_299 => if (!r_299) = true then ((m_r23_Reader_pairs N (r_242.2.1, (r_242.2.2.1.1, r_242.2.2.1.2.1, r_242.2.2.1.2.2.1, r_242.2.2.1.2.2.2), r_242.2.2.2.1, (r_242.2.2.2.2.1, r_242.2.2.2.2.2.1, r_242.2.2.2.2.2.2.1, r_242.2.2.2.2.2.2.2))).bind fun r_303 => m_r23_Parse_J3 v_39 v_40 v_41 v_42 l_72 n_76 kk_L1 r_303.2.1 r_303.2.2.1.1 r_303.2.2.1.2.1 r_303.2.2.1.2.2.1 r_303.2.2.1.2.2.2 r_303.2.2.2.1 r_303.2.2.2.2.1 r_303.2.2.2.2.2.1 r_303.2.2.2.2.2.2.1 r_303.2.2.2.2.2.2.2 q_56 q_57 q_61 q_65 q_66 q_70 q_71 1 r_303.1 q_61 q_65 (([] : List ByteArray) ++ q_66) q_70 q_71) else (m_r23_Parse_J3 v_39 v_40 v_41 v_42 l_72 n_76 kk_L1 r_242.2.1 r_242.2.2.1.1 r_242.2.2.1.2.1 r_242.2.2.1.2.2.1 r_242.2.2.1.2.2.2 r_242.2.2.2.1 r_242.2.2.2.2.1 r_242.2.2.2.2.2.1 r_242.2.2.2.2.2.2.1 r_242.2.2.2.2.2.2.2 q_56 q_57 q_61 q_65 q_66 q_70 q_71 1 q_57 q_61 q_65 (([] : List ByteArray) ++ q_66) q_70 q_71)) else (if (decide (r_242.1 = (⟨#[97, 115, 107]⟩))) = true then ((m_r23_Reader_pairs N (r_242.2.1, (r_242.2.2.1.1, r_242.2.2.1.2.1, r_242.2.2.1.2.2.1, r_242.2.2.1.2.2.2), r_242.2.2.2.1, (r_242.2.2.2.2.1, r_242.2.2.2.2.2.1, r_242.2.2.2.2.2.2.1, r_242.2.2.2.2.2.2.2))).bind fun r_323 => (m_r23_Reader_given N (r_323.2.1, (r_323.2.2.1.1, r_323.2.2.1.2.1, r_323.2.2.1.2.2.1, r_323.2.2.1.2.2.2), r_323.2.2.2.1, (r_323.2.2.2.2.1, r_323.2.2.2.2.2.1, r_323.2.2.2.2.2.2.1, r_323.2.2.2.2.2.2.2))).bind fun r_339 => m_r23_Parse_J3 v_39 v_40 v_41 v_42 l_72 n_76 kk_L1 r_339.2.1 r_339.2.2.1.1 r_339.2.2.1.2.1 r_339.2.2.1.2.2.1 r_339.2.2.1.2.2.2 r_339.2.2.2.1 r_339.2.2.2.2.1 r_339.2.2.2.2.2.1 r_339.2.2.2.2.2.2.1 r_339.2.2.2.2.2.2.2 q_56 q_57 q_61 q_65 q_66 q_70 q_71 2 r_323.1 r_339.1 q_65 (([] : List ByteArray) ++ q_66) q_70 q_71) else (if (decide (r_242.1 = (⟨#[97, 108, 108]⟩))) = true then ((m_r23_Reader_take (r_242.2.1, (r_242.2.2.1.1, r_242.2.2.1.2.1, r_242.2.2.1.2.2.1, r_242.2.2.1.2.2.2), r_242.2.2.2.1, (r_242.2.2.2.2.1, r_242.2.2.2.2.2.1, r_242.2.2.2.2.2.2.1, r_242.2.2.2.2.2.2.2)) 1 (⟨#[]⟩)).bind fun r_359 => (m_r23_Reader_given N (r_359.2.1, (r_359.2.2.1.1, r_359.2.2.1.2.1, r_359.2.2.1.2.2.1, r_359.2.2.1.2.2.2), r_359.2.2.2.1, (r_359.2.2.2.2.1, r_359.2.2.2.2.2.1, r_359.2.2.2.2.2.2.1, r_359.2.2.2.2.2.2.2))).bind fun r_377 => m_r23_Parse_J3 v_39 v_40 v_41 v_42 l_72 n_76 kk_L1 r_377.2.1 r_377.2.2.1.1 r_377.2.2.1.2.1 r_377.2.2.1.2.2.1 r_377.2.2.1.2.2.2 r_377.2.2.2.1 r_377.2.2.2.2.1 r_377.2.2.2.2.2.1 r_377.2.2.2.2.2.2.1 r_377.2.2.2.2.2.2.2 q_56 q_57 q_61 q_65 q_66 q_70 q_71 3 ([(r_359.1, ⟨#[]⟩)] : List (ByteArray × ByteArray)) r_377.1 q_65 (([] : List ByteArray) ++ q_66) q_70 q_71) else (m_r23_Parse_J3 v_39 v_40 v_41 v_42 l_72 n_76 kk_L1 r_242.2.1 r_242.2.2.1.1 r_242.2.2.1.2.1 r_242.2.2.1.2.2.1 r_242.2.2.1.2.2.2 r_242.2.2.2.1 r_242.2.2.2.2.1 r_242.2.2.2.2.2.1 r_242.2.2.2.2.2.2.1 r_242.2.2.2.2.2.2.2 q_56 q_57 q_61 q_65 q_66 q_70 q_71 q_56 q_57 q_61 q_65 (([] : List ByteArray) ++ q_66) q_70 q_71))))))
def m_r23_Parse_L1 (N : Nat)  : Nat → Int → Int → Int → ByteArray → (List (Int × ByteArray × Int × Int)) → Int → Int → Int → ByteArray → Int → Int → Int → Int → ByteArray → Int → (List (ByteArray × ByteArray)) → (List (ByteArray × ByteArray)) → Int → (List ByteArray) → Bool → Bool → (List (Int × (List (ByteArray × ByteArray)) × (List (ByteArray × ByteArray)) × Int × (List ByteArray) × (Bool × Bool))) → Int → Option ((List (Int × (List (ByteArray × ByteArray)) × (List (ByteArray × ByteArray)) × Int × (List ByteArray) × (Bool × Bool))) × (Int × Int × Int × ByteArray))
  | 0, _, _, _, _, _, _, _, _, _, _, _, _, _, _, _, _, _, _, _, _, _, _, _ => none
  | n_36 + 1, v_39, v_40, v_41, v_42, v_43, v_47, v_48, v_49, v_50, v_51, v_52, v_53, v_54, v_55, q_56, q_57, q_61, q_65, q_66, q_70, q_71, l_72, n_76 => (m_r23_Reader_is (v_43, (v_47, v_48, v_49, v_50), v_51, (v_52, v_53, v_54, v_55)) 0 (⟨#[]⟩)).bind fun r_116 => if r_116 = true then (some (l_72, (0, 0, 0, ⟨#[]⟩))) else (if (decide (4096 < n_76)) = true then ((m_r23_Reader_wrong (v_43, (v_47, v_48, v_49, v_50), v_51, (v_52, v_53, v_54, v_55))).bind fun r_393 => m_r23_Parse_J2 N v_39 v_40 v_41 v_42 q_56 q_57 q_61 q_65 q_66 q_70 q_71 l_72 n_76 (m_r23_Parse_L1 N n_36) r_393.1 r_393.2.1.1 r_393.2.1.2.1 r_393.2.1.2.2.1 r_393.2.1.2.2.2 r_393.2.2.1 r_393.2.2.2.1 r_393.2.2.2.2.1 r_393.2.2.2.2.2.1 r_393.2.2.2.2.2.2) else (m_r23_Parse_J2 N v_39 v_40 v_41 v_42 q_56 q_57 q_61 q_65 q_66 q_70 q_71 l_72 n_76 (m_r23_Parse_L1 N n_36) v_43 v_47 v_48 v_49 v_50 v_51 v_52 v_53 v_54 v_55))
termination_by structural x => x
def m_r23_Parse (N : Nat) (p0_text : ByteArray) : Option ((List (Int × (List (ByteArray × ByteArray)) × (List (ByteArray × ByteArray)) × Int × (List ByteArray) × (Bool × Bool))) × (Int × Int × Int × ByteArray)) :=
  (m_r06_All N p0_text).bind fun r_11 => m_r23_Parse_L1 N N 0 0 0 (⟨#[]⟩) r_11.1 r_11.2.1 r_11.2.2.1 r_11.2.2.2.1 r_11.2.2.2.2 0 0 0 0 (⟨#[]⟩) 0 ([] : List (ByteArray × ByteArray)) ([] : List (ByteArray × ByteArray)) 1 ([] : List ByteArray) false false ([] : List (Int × (List (ByteArray × ByteArray)) × (List (ByteArray × ByteArray)) × Int × (List ByteArray) × (Bool × Bool))) 1
theorem c_r23_Parse {N : Nat} {col : Col} {w0 : World} {p0_text : ByteArray} {r : ((List (Int × (List (ByteArray × ByteArray)) × (List (ByteArray × ByteArray)) × Int × (List ByteArray) × (Bool × Bool))) × (Int × Int × Int × ByteArray))} (c1 : Nat) (hm : m_r23_Parse N p0_text = some r)  :
    Calls Tryz.prog 24 #[(.string p0_text)] w0 (fun e w' => ∃ (col' : Col) (ra1 : Option Addr) (rc2 : Nat), e = .returned (.tuple #[(.slice ra1 r.1.length rc2), (.agg #[(.int .i64 r.2.1), (.int .i64 r.2.2.1), (.int .i64 r.2.2.2.1), (.string r.2.2.2.2)])]) ∧ Grow col w0 col' w' ∧ Own (Rep.pair (Rep.int .i8) (Rep.pair (Rep.slice (Rep.pair Rep.str Rep.str)) (Rep.pair (Rep.slice (Rep.pair Rep.str Rep.str)) (Rep.pair (Rep.int .i8) (Rep.pair (Rep.slice Rep.str) (Rep.pair Rep.bool Rep.bool)))))) 81 c1 col' w' ra1 rc2 r.1) := by
 refine calls_ofR (m := 106) Tryz.func24 rfl rfl rfl ?_;rw [m_r23_Parse.eq_1] at hm;have hst := St.start col w0;refine go ?_;refine l_allocA (col := (col0 col)) #[(.int .i64 0), (.int .i64 0), (.int .i64 0), (.string (⟨#[]⟩))] 1 Tryz.zeroValue26 ?_;intro g_1 w_2 col_3 hg_4 hb_5;refine go ?_;refine lV (.agg #[(.slice none (([] : List (Int × ByteArray × Int × Int)).length) 0), (.int .i64 0), (.int .i64 0), (.int .i64 0), (.string (⟨#[]⟩)), (.int .i64 0), (.int .i64 0), (.int .i64 0), (.int .i64 0), (.string (⟨#[]⟩))]) (r_build (l := [_, _, _, _]) (qs := [(0, 1), (1, 4), (5, 1), (6, 4)]) Tryz.underlying77 Tryz.zeroValue77 ⟨rfl, Tryz.sizeOf23, rfl, Tryz.sizeOf26, rfl, Tryz.sizeOf3, rfl, Tryz.sizeOf26, trivial⟩ rfl) <| l_boxA (col := col_3) 2 rfl ?_;intro g_6 w_7 col_8 hg_9 hb_10;refine go ?_;obtain ⟨r_11, hr_12, hm⟩ := bZ hm;refine lcA (c_r06_All (col := col_8) 3 hr_12) ?_;rintro _ w_16 ⟨col_18, ra_13, rc_14, rfl, hg_17, rh_15⟩;refine ⟨_, rfl, ?_⟩;refine lM (.tuple #[(.slice ra_13 r_11.1.length rc_14), (.agg #[(.int .i64 r_11.2.1), (.int .i64 r_11.2.2.1), (.int .i64 r_11.2.2.2.1), (.string r_11.2.2.2.2)])]) <| lV (.slice ra_13 r_11.1.length rc_14) (r_extract rfl rfl) <| lV (.agg #[(.int .i64 r_11.2.1), (.int .i64 r_11.2.2.1), (.int .i64 r_11.2.2.2.1), (.string r_11.2.2.2.2)]) (r_extract rfl rfl) <| lV (.pointer (some ⟨g_6, 0, none⟩)) (r_nilCheck rfl) <| lFa ⟨_, _, rfl⟩ ?_;replace hb_10 := hb_10.gr hg_17;refine l_bstoreF (off := 0) (v := (.slice ra_13 r_11.1.length rc_14)) hb_10 Tryz.sizeOf23 rfl rfl (by intro u hu; simp only [Value.cells, List.mem_cons, List.not_mem_nil, or_false] at hu; subst hu; rfl) rfl rfl ?_;intro w_19 hk_20 hs_21 hb_22;replace hb_22 : Box 77 2 col_18 w_19 g_6 #[(.slice ra_13 r_11.1.length rc_14), (.int .i64 0), (.int .i64 0), (.int .i64 0), (.string (⟨#[]⟩)), (.int .i64 0), (.int .i64 0), (.int .i64 0), (.int .i64 0), (.string (⟨#[]⟩))] := hb_22;refine lV (.pointer (some ⟨g_6, 0, none⟩)) (r_nilCheck rfl) <| lFa ⟨_, _, rfl⟩ ?_;refine l_bstoreF (off := 1) (v := (.agg #[(.int .i64 r_11.2.1), (.int .i64 r_11.2.2.1), (.int .i64 r_11.2.2.2.1), (.string r_11.2.2.2.2)])) hb_22 Tryz.sizeOf26 rfl rfl (by intro u hu; simp only [Value.cells, List.mem_cons, List.not_mem_nil, or_false] at hu; rcases hu with rfl | rfl | rfl | rfl <;> rfl) rfl rfl ?_;intro w_23 hk_24 hs_25 hb_26;replace hb_26 : Box 77 2 col_18 w_23 g_6 #[(.slice ra_13 r_11.1.length rc_14), (.int .i64 r_11.2.1), (.int .i64 r_11.2.2.1), (.int .i64 r_11.2.2.2.1), (.string r_11.2.2.2.2), (.int .i64 0), (.int .i64 0), (.int .i64 0), (.int .i64 0), (.string (⟨#[]⟩))] := hb_26;refine go ?_
 refine lV (.agg #[(.int .i8 0), (.slice none (([] : List (ByteArray × ByteArray)).length) 0), (.slice none (([] : List (ByteArray × ByteArray)).length) 0), (.int .i8 1), (.slice none (([] : List ByteArray).length) 0), (.bool false), (.bool false)]) (r_build (l := [_, _, _, _, _, _]) (qs := [(0, 1), (1, 1), (2, 1), (3, 1), (4, 1), (5, 2)]) Tryz.underlying81 Tryz.zeroValue81 ⟨rfl, Tryz.sizeOf36, rfl, Tryz.sizeOf78, rfl, Tryz.sizeOf78, rfl, Tryz.sizeOf36, rfl, Tryz.sizeOf47, rfl, Tryz.sizeOf79, trivial⟩ rfl) <| l_allocA (col := col_18) #[(.int .i8 0), (.slice none (([] : List (ByteArray × ByteArray)).length) 0), (.slice none (([] : List (ByteArray × ByteArray)).length) 0), (.int .i8 0), (.slice none (([] : List ByteArray).length) 0), (.bool false), (.bool false)] 4 Tryz.zeroValue81 ?_;intro g_27 w_28 col_29 hg_30 hb_31;refine l_bsA hb_31 ?_;intro w_32 hk_33 hs_34 hb_35;refine go ?_;replace hst := ((((((hst.grow hg_4).grow hg_9).grow hg_17).kp hk_20 hs_21).kp hk_24 hs_25).grow hg_30).kp hk_33 hs_34;replace hb_5 := (((((hb_5.gr hg_9).gr hg_17).kp hk_20).kp hk_24).gr hg_30).kp hk_33;replace rh_15 := (((rh_15.kp hk_20).kp hk_24).gr hg_30).kp hk_33;replace hb_26 := (hb_26.gr hg_30).kp hk_33;refine wloopK [3, 4, 5, 1000000] (fun n f w_37 => ∃ col_38 v_39 v_40 v_41 v_42 a_44 cap_45 v_43 v_47 v_48 v_49 v_50 v_51 v_52 v_53 v_54 v_55 q_56 a_58 cap_59 q_57 a_62 cap_63 q_61 q_65 a_67 cap_68 q_66 q_70 q_71 a_73 cap_74 l_72 n_76 n_36, n_36 = n ∧ m_r23_Parse_L1 N n_36 v_39 v_40 v_41 v_42 v_43 v_47 v_48 v_49 v_50 v_51 v_52 v_53 v_54 v_55 q_56 q_57 q_61 q_65 q_66 q_70 q_71 l_72 n_76 = some r ∧ St w0 (col0 col) col_38 w_37 ∧ Box 26 1 col_38 w_37 g_1 #[(.int .i64 v_39), (.int .i64 v_40), (.int .i64 v_41), (.string v_42)] ∧ Own (Rep.pair (Rep.int .i8) (Rep.pair Rep.str (Rep.pair (Rep.int .i64) (Rep.int .i64)))) 38 3 col_38 w_37 a_44 cap_45 v_43 ∧ Box 77 2 col_38 w_37 g_6 #[(.slice a_44 v_43.length cap_45), (.int .i64 v_47), (.int .i64 v_48), (.int .i64 v_49), (.string v_50), (.int .i64 v_51), (.int .i64 v_52), (.int .i64 v_53), (.int .i64 v_54), (.string v_55)] ∧ Sl (Rep.pair Rep.str Rep.str) col_38 w_37 a_58 cap_59 q_57 ∧ Sl (Rep.pair Rep.str Rep.str) col_38 w_37 a_62 cap_63 q_61 ∧ Sl Rep.str col_38 w_37 a_67 cap_68 q_66 ∧ Box 81 4 col_38 w_37 g_27 #[(.int .i8 q_56), (.slice a_58 q_57.length cap_59), (.slice a_62 q_61.length cap_63), (.int .i8 q_65), (.slice a_67 q_66.length cap_68), (.bool q_70), (.bool q_71)] ∧ Own (Rep.pair (Rep.int .i8) (Rep.pair (Rep.slice (Rep.pair Rep.str Rep.str)) (Rep.pair (Rep.slice (Rep.pair Rep.str Rep.str)) (Rep.pair (Rep.int .i8) (Rep.pair (Rep.slice Rep.str) (Rep.pair Rep.bool Rep.bool)))))) 81 5 col_38 w_37 a_73 cap_74 l_72 ∧ [6, 7].map f = [.slice a_73 l_72.length cap_74, .int .i64 n_76]) N ⟨_, 0, 0, 0, _, _, _, _, _, _, _, _, 0, 0, 0, 0, _, 0, none, 0, _, none, 0, _, 1, none, 0, _, _, _, none, 0, _, 1, _, rfl, hm, hst, hb_5, rh_15, hb_26, Sl.nil, Sl.nil, Sl.nil, hb_35, Own.nil, rfl⟩ ?_;clear hm; intro n f w_37 hI
 obtain ⟨col_38, v_39, v_40, v_41, v_42, a_44, cap_45, v_43, v_47, v_48, v_49, v_50, v_51, v_52, v_53, v_54, v_55, q_56, a_58, cap_59, q_57, a_62, cap_63, q_61, q_65, a_67, cap_68, q_66, q_70, q_71, a_73, cap_74, l_72, n_76, n_36, hn, hm, hst, hb_5, h_46, hb_26, h_60, h_64, h_69, hb_35, h_75, hs⟩ := hI;subst hn;refine .lL [6, 7] hs ?_
 cases n_36 with
 | zero => rw [m_r23_Parse_L1.eq_1] at hm; cases hm
 | succ n_36 =>
  rw [m_r23_Parse_L1.eq_2] at hm;refine wseq ?_;refine Wp.cutK [3, 4, 5, 7, 1000000] (fun f w_77 => ∃ col_78 v_79 v_80 v_81 v_82 a_84 cap_85 v_83 v_87 v_88 v_89 v_90 v_91 v_92 v_93 v_94 v_95 q_96 a_98 cap_99 q_97 a_102 cap_103 q_101 q_105 a_107 cap_108 q_106 q_110 q_111 a_113 cap_114 l_112, m_r23_Parse_J1 n_76 (m_r23_Parse_L1 N n_36) v_79 v_80 v_81 v_82 v_83 v_87 v_88 v_89 v_90 v_91 v_92 v_93 v_94 v_95 q_96 q_97 q_101 q_105 q_106 q_110 q_111 l_112 = some r ∧ St w0 (col0 col) col_78 w_77 ∧ Box 26 1 col_78 w_77 g_1 #[(.int .i64 v_79), (.int .i64 v_80), (.int .i64 v_81), (.string v_82)] ∧ Own (Rep.pair (Rep.int .i8) (Rep.pair Rep.str (Rep.pair (Rep.int .i64) (Rep.int .i64)))) 38 3 col_78 w_77 a_84 cap_85 v_83 ∧ Box 77 2 col_78 w_77 g_6 #[(.slice a_84 v_83.length cap_85), (.int .i64 v_87), (.int .i64 v_88), (.int .i64 v_89), (.string v_90), (.int .i64 v_91), (.int .i64 v_92), (.int .i64 v_93), (.int .i64 v_94), (.string v_95)] ∧ Sl (Rep.pair Rep.str Rep.str) col_78 w_77 a_98 cap_99 q_97 ∧ Sl (Rep.pair Rep.str Rep.str) col_78 w_77 a_102 cap_103 q_101 ∧ Sl Rep.str col_78 w_77 a_107 cap_108 q_106 ∧ Box 81 4 col_78 w_77 g_27 #[(.int .i8 q_96), (.slice a_98 q_97.length cap_99), (.slice a_102 q_101.length cap_103), (.int .i8 q_105), (.slice a_107 q_106.length cap_108), (.bool q_110), (.bool q_111)] ∧ Own (Rep.pair (Rep.int .i8) (Rep.pair (Rep.slice (Rep.pair Rep.str Rep.str)) (Rep.pair (Rep.slice (Rep.pair Rep.str Rep.str)) (Rep.pair (Rep.int .i8) (Rep.pair (Rep.slice Rep.str) (Rep.pair Rep.bool Rep.bool)))))) 81 5 col_78 w_77 a_113 cap_114 l_112 ∧ [6].map f = [.slice a_113 l_112.length cap_114]) ?_ ?_
  ·intro f w_77 hJ;obtain ⟨col_78, v_79, v_80, v_81, v_82, a_84, cap_85, v_83, v_87, v_88, v_89, v_90, v_91, v_92, v_93, v_94, v_95, q_96, a_98, cap_99, q_97, a_102, cap_103, q_101, q_105, a_107, cap_108, q_106, q_110, q_111, a_113, cap_114, l_112, hm, hst, hb_5, h_86, hb_26, h_100, h_104, h_109, hb_35, h_115, hs⟩ := hJ;rw [m_r23_Parse_J1.eq_1] at hm;refine .lL [6] hs <| go ?_;exact ⟨n_36, by omega, rfl, ⟨_, _, _, _, _, _, _, _, _, _, _, _, _, _, _, _, _, _, _, _, _, _, _, _, _, _, _, _, _, _, _, _, _, _, _, rfl, hm, hst, hb_5, h_86, hb_26, h_100, h_104, h_109, hb_35, h_115, rfl⟩⟩
  refine go ?_;obtain ⟨r_116, hr_117, hm⟩ := bZ hm;refine lcA (c_r23_Reader_is 2 3 hr_117 (by decide) (by decide) h_46 hb_26) ?_;rintro _ w_118 ⟨rfl, hg_119⟩;refine ⟨_, rfl, ?_⟩;replace hg_119 : Grow col_38 w_37 col_38 w_118 := .of_below hg_119;refine go ?_;replace h_46 := h_46.gr hg_119;replace h_60 := h_60.gr hg_119;replace h_64 := h_64.gr hg_119;replace h_69 := h_69.gr hg_119;replace h_75 := h_75.gr hg_119;replace hb_5 := hb_5.gr hg_119;replace hb_26 := hb_26.gr hg_119;replace hb_35 := hb_35.gr hg_119;replace hst := hst.grow hg_119;refine wcb hm (fun hb hm => go ?_) fun hb hm => ?_
  ·refine lV (.agg #[(.int .i64 0), (.int .i64 0), (.int .i64 0), (.string (⟨#[]⟩))]) (r_build (l := [_, _, _, _]) (qs := [(0, 1), (1, 1), (2, 1), (3, 1)]) Tryz.underlying26 Tryz.zeroValue26 ⟨rfl, Tryz.sizeOf24, rfl, Tryz.sizeOf3, rfl, Tryz.sizeOf3, rfl, Tryz.sizeOf9, trivial⟩ rfl) <| lAS rfl <| l_bsA hb_5 ?_;intro w_120 hk_121 hs_122 hb_123;refine go ?_;cases hm;replace h_75 := h_75.kp hk_121;replace hst := hst.kp hk_121 hs_122;exact ⟨rfl, _, res_ta rfl rfl rfl rfl Tryz.isAgg26 Tryz.sizeOf26 rfl rfl hb_123.atN, _, _, _, rfl, hst.fin (cm [(5, c1)]), hst.fo h_75⟩
  refine wskip <| wseq ?_;refine Wp.cutK [3, 4, 5, 6, 7, 1000000] (fun f w_124 => ∃ col_125 a_127 cap_128 v_126 v_130 v_131 v_132 v_133 v_134 v_135 v_136 v_137 v_138, m_r23_Parse_J2 N v_39 v_40 v_41 v_42 q_56 q_57 q_61 q_65 q_66 q_70 q_71 l_72 n_76 (m_r23_Parse_L1 N n_36) v_126 v_130 v_131 v_132 v_133 v_134 v_135 v_136 v_137 v_138 = some r ∧ St w0 (col0 col) col_125 w_124 ∧ Box 26 1 col_125 w_124 g_1 #[(.int .i64 v_39), (.int .i64 v_40), (.int .i64 v_41), (.string v_42)] ∧ Own (Rep.pair (Rep.int .i8) (Rep.pair Rep.str (Rep.pair (Rep.int .i64) (Rep.int .i64)))) 38 3 col_125 w_124 a_127 cap_128 v_126 ∧ Box 77 2 col_125 w_124 g_6 #[(.slice a_127 v_126.length cap_128), (.int .i64 v_130), (.int .i64 v_131), (.int .i64 v_132), (.string v_133), (.int .i64 v_134), (.int .i64 v_135), (.int .i64 v_136), (.int .i64 v_137), (.string v_138)] ∧ Sl (Rep.pair Rep.str Rep.str) col_125 w_124 a_58 cap_59 q_57 ∧ Sl (Rep.pair Rep.str Rep.str) col_125 w_124 a_62 cap_63 q_61 ∧ Sl Rep.str col_125 w_124 a_67 cap_68 q_66 ∧ Box 81 4 col_125 w_124 g_27 #[(.int .i8 q_56), (.slice a_58 q_57.length cap_59), (.slice a_62 q_61.length cap_63), (.int .i8 q_65), (.slice a_67 q_66.length cap_68), (.bool q_70), (.bool q_71)] ∧ Own (Rep.pair (Rep.int .i8) (Rep.pair (Rep.slice (Rep.pair Rep.str Rep.str)) (Rep.pair (Rep.slice (Rep.pair Rep.str Rep.str)) (Rep.pair (Rep.int .i8) (Rep.pair (Rep.slice Rep.str) (Rep.pair Rep.bool Rep.bool)))))) 81 5 col_125 w_124 a_73 cap_74 l_72) ?_ ?_
  ·intro f w_124 hJ;obtain ⟨col_125, a_127, cap_128, v_126, v_130, v_131, v_132, v_133, v_134, v_135, v_136, v_137, v_138, hm, hst, hb_5, h_129, hb_26, h_60, h_64, h_69, hb_35, h_75⟩ := hJ;rw [m_r23_Parse_J2.eq_1] at hm;refine go ?_;refine lV _ (r_ldB Tryz.isAgg81 Tryz.sizeOf81 hb_35) <| l_allocA (col := col_125) #[(.int .i8 0), (.slice none (([] : List (ByteArray × ByteArray)).length) 0), (.slice none (([] : List (ByteArray × ByteArray)).length) 0), (.int .i8 0), (.slice none (([] : List ByteArray).length) 0), (.bool false), (.bool false)] 6 Tryz.zeroValue81 ?_;intro g_139 w_140 col_141 hg_142 hb_143;refine l_bsA hb_143 ?_;intro w_144 hk_145 hs_146 hb_147;refine go ?_;refine lFa ⟨_, _, rfl⟩ ?_;refine l_bstoreF (off := 4) (v := (.slice none (([] : List ByteArray).length) 0)) hb_147 Tryz.sizeOf47 rfl rfl (by intro u hu; simp only [Value.cells, List.mem_cons, List.not_mem_nil, or_false] at hu; subst hu; rfl) rfl rfl ?_;intro w_148 hk_149 hs_150 hb_151;replace hb_151 : Box 81 6 col_141 w_148 g_139 #[(.int .i8 q_56), (.slice a_58 q_57.length cap_59), (.slice a_62 q_61.length cap_63), (.int .i8 q_65), (.slice none (([] : List ByteArray).length) 0), (.bool q_70), (.bool q_71)] := hb_151;refine go ?_;refine lFLb hb_151 <| lFa ⟨_, _, rfl⟩ ?_;replace hb_35 := ((hb_35.gr hg_142).kp hk_145).kp hk_149;refine lW ((hb_35.atN).nth (q := 4) rfl) ?_;obtain ⟨hb_152, hm⟩ := chk_some hm;replace h_69 := ((h_69.gr hg_142).kp hk_145).kp hk_149;refine l_appA (c := 7) Own.nil h_69.srcC hb_152 ?_;intro a_153 cap_154 w_155 col_156 hk_157 h_158;refine lFa ⟨_, _, rfl⟩ ?_;replace hb_151 := hb_151.kpp hk_157;refine l_bstoreF (off := 4) (v := (.slice a_153 ((([] : List ByteArray) ++ q_66).length) cap_154)) hb_151 Tryz.sizeOf47 rfl rfl (by intro u hu; simp only [Value.cells, List.mem_cons, List.not_mem_nil, or_false] at hu; subst hu; rfl) rfl rfl ?_;intro w_159 hk_160 hs_161 hb_162;replace hb_162 : Box 81 6 col_156 w_159 g_139 #[(.int .i8 q_56), (.slice a_58 q_57.length cap_59), (.slice a_62 q_61.length cap_63), (.int .i8 q_65), (.slice a_153 ((([] : List ByteArray) ++ q_66).length) cap_154), (.bool q_70), (.bool q_71)] := hb_162;refine lnil <| wseq ?_;replace h_129 := ((((h_129.gr hg_142).kp hk_145).kp hk_149).kpp hk_157).kp hk_160;replace h_60 := ((((h_60.gr hg_142).kp hk_145).kp hk_149).kpp hk_157).kp hk_160;replace h_64 := ((((h_64.gr hg_142).kp hk_145).kp hk_149).kpp hk_157).kp hk_160;replace h_75 := ((((h_75.gr hg_142).kp hk_145).kp hk_149).kpp hk_157).kp hk_160;replace hb_5 := ((((hb_5.gr hg_142).kp hk_145).kp hk_149).kpp hk_157).kp hk_160;replace hb_26 := ((((hb_26.gr hg_142).kp hk_145).kp hk_149).kpp hk_157).kp hk_160;replace hst := ((((hst.grow hg_142).kp hk_145 hs_146).kp hk_149 hs_150).kpp hk_157).kp hk_160 hs_161;replace h_69 := (h_69.kpp hk_157).kp hk_160;replace hb_35 := (hb_35.kpp hk_157).kp hk_160;replace h_158 := h_158.kp hk_160
   refine Wp.cutK [3, 4, 5, 6, 7, 9, 1000000] (fun f w_163 => ∃ col_164 a_166 cap_167 v_165 v_169 v_170 v_171 v_172 v_173 v_174 v_175 v_176 v_177 q_178 a_180 cap_181 q_179 a_184 cap_185 q_183 q_187 a_189 cap_190 q_188 q_192 q_193 ask_194 a_196 cap_197 ask_195 a_200 cap_201 ask_199 ask_203 a_205 cap_206 ask_204 ask_208 ask_209, m_r23_Parse_J3 v_39 v_40 v_41 v_42 l_72 n_76 (m_r23_Parse_L1 N n_36) v_165 v_169 v_170 v_171 v_172 v_173 v_174 v_175 v_176 v_177 q_178 q_179 q_183 q_187 q_188 q_192 q_193 ask_194 ask_195 ask_199 ask_203 ask_204 ask_208 ask_209 = some r ∧ St w0 (col0 col) col_164 w_163 ∧ Box 26 1 col_164 w_163 g_1 #[(.int .i64 v_39), (.int .i64 v_40), (.int .i64 v_41), (.string v_42)] ∧ Own (Rep.pair (Rep.int .i8) (Rep.pair Rep.str (Rep.pair (Rep.int .i64) (Rep.int .i64)))) 38 3 col_164 w_163 a_166 cap_167 v_165 ∧ Box 77 2 col_164 w_163 g_6 #[(.slice a_166 v_165.length cap_167), (.int .i64 v_169), (.int .i64 v_170), (.int .i64 v_171), (.string v_172), (.int .i64 v_173), (.int .i64 v_174), (.int .i64 v_175), (.int .i64 v_176), (.string v_177)] ∧ Sl (Rep.pair Rep.str Rep.str) col_164 w_163 a_180 cap_181 q_179 ∧ Sl (Rep.pair Rep.str Rep.str) col_164 w_163 a_184 cap_185 q_183 ∧ Sl Rep.str col_164 w_163 a_189 cap_190 q_188 ∧ Box 81 4 col_164 w_163 g_27 #[(.int .i8 q_178), (.slice a_180 q_179.length cap_181), (.slice a_184 q_183.length cap_185), (.int .i8 q_187), (.slice a_189 q_188.length cap_190), (.bool q_192), (.bool q_193)] ∧ Own (Rep.pair (Rep.int .i8) (Rep.pair (Rep.slice (Rep.pair Rep.str Rep.str)) (Rep.pair (Rep.slice (Rep.pair Rep.str Rep.str)) (Rep.pair (Rep.int .i8) (Rep.pair (Rep.slice Rep.str) (Rep.pair Rep.bool Rep.bool)))))) 81 5 col_164 w_163 a_73 cap_74 l_72 ∧ Sl (Rep.pair Rep.str Rep.str) col_164 w_163 a_196 cap_197 ask_195 ∧ Sl (Rep.pair Rep.str Rep.str) col_164 w_163 a_200 cap_201 ask_199 ∧ Own Rep.str 9 7 col_164 w_163 a_205 cap_206 ask_204 ∧ Box 81 6 col_164 w_163 g_139 #[(.int .i8 ask_194), (.slice a_196 ask_195.length cap_197), (.slice a_200 ask_199.length cap_201), (.int .i8 ask_203), (.slice a_205 ask_204.length cap_206), (.bool ask_208), (.bool ask_209)]) ?_ ?_
   ·intro f w_163 hJ;obtain ⟨col_164, a_166, cap_167, v_165, v_169, v_170, v_171, v_172, v_173, v_174, v_175, v_176, v_177, q_178, a_180, cap_181, q_179, a_184, cap_185, q_183, q_187, a_189, cap_190, q_188, q_192, q_193, ask_194, a_196, cap_197, ask_195, a_200, cap_201, ask_199, ask_203, a_205, cap_206, ask_204, ask_208, ask_209, hm, hst, hb_5, h_168, hb_26, h_182, h_186, h_191, hb_35, h_75, h_198, h_202, h_207, hb_162⟩ := hJ;rw [m_r23_Parse_J3.eq_1] at hm;refine go ?_;obtain ⟨r_210, hr_211, hm⟩ := bZ hm;refine lcA (c_r23_Reader_take 2 3 hr_211 rfl h_168 hb_26) ?_;rintro _ w_216 ⟨col_218, oa_212, oc_213, rfl, hg_217, oh_214, ohb_215⟩;refine ⟨_, rfl, go ?_⟩;refine lV (.pointer (some ⟨g_6, 0, none⟩)) (r_nilCheck rfl) <| lFa ⟨_, _, rfl⟩ ?_;refine lFa (sptr_addr ⟨_, _, rfl⟩) ?_;refine lW ((((ohb_215.atN).part 6 4 _ rfl)).nth (q := 0) rfl) <| go ?_;replace h_182 := h_182.kpp hg_217;replace h_186 := h_186.kpp hg_217;replace h_191 := h_191.kpp hg_217;replace h_75 := h_75.kpp hg_217;replace h_198 := h_198.kpp hg_217;replace h_202 := h_202.kpp hg_217;replace h_207 := h_207.kpp hg_217;replace hb_5 := hb_5.kpp hg_217;replace hb_35 := hb_35.kpp hg_217;replace hb_162 := hb_162.kpp hg_217;replace hst := hst.kpp hg_217;refine wcb hm (fun hb hm => ?_) fun hb hm => go ?_
    ·refine wseq <| wmix (col := col_218) [(0, 1), (1, 1), (2, 1), (3, 0), (4, 1), (5, 2)] (by kernel_rfl) (by kernel_rfl) <| xu rfl rfl (fun _ => r_mP rfl) ?_;refine xu (v := (.pointer (some ⟨g_6, 0, none⟩))) rfl rfl (fun _ => r_nilCheck rfl) ?_;refine xF ⟨_, _, rfl⟩ ?_;refine xv (v := (.agg #[(.int .i64 r_210.2.2.2.2.1), (.int .i64 r_210.2.2.2.2.2.1), (.int .i64 r_210.2.2.2.2.2.2.1), (.string r_210.2.2.2.2.2.2.2)])) rfl rfl (fun _ hC => r_ldN Tryz.isAgg26 Tryz.sizeOf26 rfl rfl (((ohb_215.atN).part 6 4 _ rfl).gr (hC.bl col_218))) ?_;refine xu rfl rfl (fun _ => r_aS rfl) ?_;refine xe rfl rfl ?_;intro w_219 hC0;have hC := hC0.bl col_218;replace hb_5 := hb_5.gr hC;refine l_bsA hb_5 ?_;intro w_220 hk_221 hs_222 hb_223;refine lnil <| xk col_218 <| xnil ?_;replace hst := (hst.grow hC).kp hk_221 hs_222;intro w_224 hC;replace hC := hC.bl col_218;refine wret ?_;cases hm;replace hb_223 := hb_223.gr hC;replace hst := hst.grow hC;exact ⟨rfl, _, res_ta rfl rfl rfl rfl Tryz.isAgg26 Tryz.sizeOf26 rfl rfl hb_223.atN, _, none, 0, rfl, hst.fin (cm []), Own.nil⟩
    refine lFLb hb_162 ?_;refine go ?_;refine wcb hm (fun hb hm => go ?_) fun hb hm => ?_
    ·refine lV _ (r_ldB Tryz.isAgg81 Tryz.sizeOf81 hb_162) ?_;replace oh_214 := oh_214.froz 7 (by decide);replace h_182 := h_182.froz 7;replace h_186 := h_186.froz 7;replace h_191 := h_191.froz 7;replace h_75 := h_75.froz 7 (by decide);replace h_198 := h_198.froz 7;replace h_202 := h_202.froz 7;replace h_207 := (h_207).toSlF Froz.str;replace hb_5 := hb_5.froz 7 (by decide);replace ohb_215 := ohb_215.froz 7 (by decide);replace hb_35 := hb_35.froz 7 (by decide);replace hst := hst.froz 7 (by decide) (by decide);refine l_litA (col := (frC 7 col_218)) (r := (Rep.pair (Rep.int .i8) (Rep.pair (Rep.slice (Rep.pair Rep.str Rep.str)) (Rep.pair (Rep.slice (Rep.pair Rep.str Rep.str)) (Rep.pair (Rep.int .i8) (Rep.pair (Rep.slice Rep.str) (Rep.pair Rep.bool Rep.bool))))))) (xs := [(ask_194, ask_195, ask_199, ask_203, ask_204, (ask_208, ask_209))]) [(.agg #[(.int .i8 ask_194), (.slice a_196 ask_195.length cap_197), (.slice a_200 ask_199.length cap_201), (.int .i8 ask_203), (.slice a_205 ask_204.length cap_206), (.bool ask_208), (.bool ask_209)])] 8 (RowsH.ofF (Rows.consF (r := (Rep.pair (Rep.int .i8) (Rep.pair (Rep.slice (Rep.pair Rep.str Rep.str)) (Rep.pair (Rep.slice (Rep.pair Rep.str Rep.str)) (Rep.pair (Rep.int .i8) (Rep.pair (Rep.slice Rep.str) (Rep.pair Rep.bool Rep.bool))))))) (x := (ask_194, ask_195, ask_199, ask_203, ask_204, (ask_208, ask_209))) (cs := [(.int .i8 ask_194), (.slice a_196 ask_195.length cap_197), (.slice a_200 ask_199.length cap_201), (.int .i8 ask_203), (.slice a_205 ask_204.length cap_206), (.bool ask_208), (.bool ask_209)]) (rd_pairI (rd_int .i8 ask_194) (rd_pairI (rd_slI h_198) (rd_pairI (rd_slI h_202) (rd_pairI (rd_int .i8 ask_203) (rd_pairI (rd_slI h_207) (rd_pairI (rd_bool ask_208) (rd_bool ask_209))))))) Rows.nil0)) ?_;intro a_225 w_226 col_227 hg_228 h_229;obtain ⟨hb_230, hm⟩ := chk_some hm;replace h_75 := h_75.gr hg_228;refine l_appA h_75 (h_229.srcN (NB.pair (NB.int (k := .i8)) (NB.pair NB.slice (NB.pair NB.slice (NB.pair (NB.int (k := .i8)) (NB.pair NB.slice (NB.pair NB.bool NB.bool))))))) hb_230 ?_;intro a_231 cap_232 w_233 col_234 hk_235 h_236;refine go ?_;replace oh_214 := (oh_214.gr hg_228).kpp hk_235;replace h_182 := (h_182.gr hg_228).kpp hk_235;replace h_186 := (h_186.gr hg_228).kpp hk_235;replace h_191 := (h_191.gr hg_228).kpp hk_235;replace hb_5 := (hb_5.gr hg_228).kpp hk_235;replace ohb_215 := (ohb_215.gr hg_228).kpp hk_235;replace hb_35 := (hb_35.gr hg_228).kpp hk_235;replace hst := (hst.grow hg_228).kpp hk_235;exact ⟨rfl, _, _, _, _, _, _, _, _, _, _, _, _, _, _, _, _, _, _, _, _, _, _, _, _, _, _, _, _, _, _, _, _, _, hm, hst, hb_5, oh_214, ohb_215, h_182, h_186, h_191, hb_35, h_236, rfl⟩
    refine wskip ?_;exact ⟨rfl, _, _, _, _, _, _, _, _, _, _, _, _, _, _, _, _, _, _, _, _, _, _, _, _, _, _, _, _, _, _, _, _, _, hm, hst, hb_5, oh_214, ohb_215, h_182, h_186, h_191, hb_35, h_75, rfl⟩
   refine go ?_;refine l_litS (col := col_156) ([⟨#[117, 115, 101]⟩, ⟨#[112, 114, 117, 110, 101]⟩, ⟨#[99, 104, 97, 110, 99, 101]⟩, ⟨#[97, 115, 107]⟩, ⟨#[97, 108, 108]⟩] : List ByteArray) 9 ?_;intro a_237 w_238 col_239 hg_240 h_241;replace h_129 := h_129.gr hg_240;replace h_129 := h_129.froz 9 (by decide);replace h_60 := h_60.gr hg_240;replace h_60 := h_60.froz 9;replace h_64 := h_64.gr hg_240;replace h_64 := h_64.froz 9;replace h_69 := h_69.gr hg_240;replace h_69 := h_69.froz 9;replace h_75 := h_75.gr hg_240;replace h_75 := h_75.froz 9 (by decide);replace h_158 := h_158.gr hg_240;replace h_158 := h_158.froz 9 (by decide);replace h_241 := (h_241).toSlF Froz.str;replace hb_5 := hb_5.gr hg_240;replace hb_5 := hb_5.froz 9 (by decide);replace hb_26 := hb_26.gr hg_240;replace hb_26 := hb_26.froz 9 (by decide);replace hb_35 := hb_35.gr hg_240;replace hb_35 := hb_35.froz 9 (by decide);replace hb_162 := hb_162.gr hg_240;replace hb_162 := hb_162.froz 9 (by decide);replace hst := hst.grow hg_240;replace hst := hst.froz 9 (by decide) (by decide);obtain ⟨r_242, hr_243, hm⟩ := bZ hm;refine lcA (c_r23_Reader_one 2 3 hr_243 rfl h_129 hb_26 h_241) ?_;rintro _ w_248 ⟨col_250, oa_244, oc_245, rfl, hg_249, oh_246, ohb_247⟩;refine ⟨_, rfl, go ?_⟩;replace h_60 := h_60.kpp hg_249;replace h_64 := h_64.kpp hg_249;replace h_69 := h_69.kpp hg_249;replace h_75 := h_75.kpp hg_249;replace h_158 := h_158.kpp hg_249;replace hb_5 := hb_5.kpp hg_249;replace hb_35 := hb_35.kpp hg_249;replace hb_162 := hb_162.kpp hg_249;replace hst := hst.kpp hg_249;refine wcb hm (fun hb hm => go ?_) fun hb hm => go ?_
   ·refine lV _ (r_ldB Tryz.isAgg81 Tryz.sizeOf81 hb_35) ?_;obtain ⟨r_251, hr_252, hm⟩ := bZ hm;refine lcA (c_r23_Reader_use 2 3 hr_252 rfl oh_246 ohb_247 h_60 h_64 h_69) ?_;rintro _ w_266 ⟨col_268, ra_253, rc_254, ra_256, rc_257, ra_259, rc_260, oa_262, oc_263, rfl, hg_267, rh_255, rh_258, rh_261, oh_264, ohb_265⟩;refine ⟨_, rfl, ?_⟩;replace hb_35 := hb_35.kpp hg_267;refine l_bsA hb_35 ?_;intro w_269 hk_270 hs_271 hb_272;refine lnil ?_;replace h_60 := (h_60.kpp hg_267).kp hk_270;replace h_64 := (h_64.kpp hg_267).kp hk_270;replace h_75 := (h_75.kpp hg_267).kp hk_270;replace h_158 := (h_158.kpp hg_267).kp hk_270;replace hb_5 := (hb_5.kpp hg_267).kp hk_270;replace hb_162 := (hb_162.kpp hg_267).kp hk_270;replace hst := (hst.kpp hg_267).kp hk_270 hs_271;replace oh_264 := oh_264.kp hk_270;replace rh_255 := rh_255.kp hk_270;replace rh_258 := rh_258.kp hk_270;replace rh_261 := rh_261.kp hk_270;replace ohb_265 := ohb_265.kp hk_270;exact ⟨rfl, _, _, _, _, _, _, _, _, _, _, _, _, _, _, _, _, _, _, _, _, _, _, _, _, _, _, _, _, _, _, _, _, _, _, _, _, _, _, _, hm, hst, hb_5, oh_264, ohb_265, rh_255, rh_258, rh_261, hb_272, h_75, h_60, h_64, h_158, hb_162⟩
   refine wcb hm (fun hb hm => go ?_) fun hb hm => go ?_
   ·refine lV _ (r_ldB Tryz.isAgg81 Tryz.sizeOf81 hb_35) ?_;obtain ⟨r_273, hr_274, hm⟩ := bZ hm;refine lcA (c_r23_Reader_prune 2 3 hr_274 rfl oh_246 ohb_247 h_60 h_64 h_69) ?_;rintro _ w_288 ⟨col_290, ra_275, rc_276, ra_278, rc_279, ra_281, rc_282, oa_284, oc_285, rfl, hg_289, rh_277, rh_280, rh_283, oh_286, ohb_287⟩;refine ⟨_, rfl, ?_⟩;replace hb_35 := hb_35.kpp hg_289;refine l_bsA hb_35 ?_;intro w_291 hk_292 hs_293 hb_294;refine lnil ?_;replace h_60 := (h_60.kpp hg_289).kp hk_292;replace h_64 := (h_64.kpp hg_289).kp hk_292;replace h_75 := (h_75.kpp hg_289).kp hk_292;replace h_158 := (h_158.kpp hg_289).kp hk_292;replace hb_5 := (hb_5.kpp hg_289).kp hk_292;replace hb_162 := (hb_162.kpp hg_289).kp hk_292;replace hst := (hst.kpp hg_289).kp hk_292 hs_293;replace oh_286 := oh_286.kp hk_292;replace rh_277 := rh_277.kp hk_292;replace rh_280 := rh_280.kp hk_292;replace rh_283 := rh_283.kp hk_292;replace ohb_287 := ohb_287.kp hk_292;exact ⟨rfl, _, _, _, _, _, _, _, _, _, _, _, _, _, _, _, _, _, _, _, _, _, _, _, _, _, _, _, _, _, _, _, _, _, _, _, _, _, _, _, hm, hst, hb_5, oh_286, ohb_287, rh_277, rh_280, rh_283, hb_294, h_75, h_60, h_64, h_158, hb_162⟩
   refine wcb hm (fun hb hm => go ?_) fun hb hm => go ?_
   ·refine lFa ⟨_, _, rfl⟩ ?_;refine l_bstoreF (off := 0) (v := (.int .i8 1)) hb_162 Tryz.sizeOf36 rfl rfl (by intro u hu; simp only [Value.cells, List.mem_cons, List.not_mem_nil, or_false] at hu; subst hu; rfl) rfl rfl ?_;intro w_295 hk_296 hs_297 hb_298;replace hb_298 : Box 81 6 col_250 w_295 g_139 #[(.int .i8 1), (.slice a_58 q_57.length cap_59), (.slice a_62 q_61.length cap_63), (.int .i8 q_65), (.slice a_153 ((([] : List ByteArray) ++ q_66).length) cap_154), (.bool q_70), (.bool q_71)] := hb_298;refine go ?_;obtain ⟨r_299, hr_300, hm⟩ := bZ hm;replace oh_246 := oh_246.kp hk_296;replace ohb_247 := ohb_247.kp hk_296;refine lcA (c_r23_Reader_is 2 3 hr_300 (by decide) (by decide) oh_246 ohb_247) ?_;rintro _ w_301 ⟨rfl, hg_302⟩;refine ⟨_, rfl, ?_⟩;replace hg_302 : Grow col_250 w_295 col_250 w_301 := .of_below hg_302;refine go ?_;replace h_60 := (h_60.kp hk_296).gr hg_302;replace h_64 := (h_64.kp hk_296).gr hg_302;replace h_69 := (h_69.kp hk_296).gr hg_302;replace h_75 := (h_75.kp hk_296).gr hg_302;replace h_158 := (h_158.kp hk_296).gr hg_302;replace hb_5 := (hb_5.kp hk_296).gr hg_302;replace hb_35 := (hb_35.kp hk_296).gr hg_302;replace hst := (hst.kp hk_296 hs_297).grow hg_302;replace oh_246 := oh_246.gr hg_302;replace ohb_247 := ohb_247.gr hg_302;replace hb_298 := hb_298.gr hg_302;refine wcb hm (fun hb hm => go ?_) fun hb hm => ?_
    ·obtain ⟨r_303, hr_304, hm⟩ := bZ hm;refine lcA (c_r23_Reader_pairs 10 2 3 hr_304 rfl oh_246 ohb_247) ?_;rintro _ w_312 ⟨col_314, ra_305, rc_306, oa_308, oc_309, rfl, hg_313, rh_307, oh_310, ohb_311⟩;refine ⟨_, rfl, ?_⟩;refine lFa ⟨_, _, rfl⟩ ?_;replace hb_298 := hb_298.kpp hg_313;refine l_bstoreF (off := 1) (v := (.slice ra_305 r_303.1.length rc_306)) hb_298 Tryz.sizeOf78 rfl rfl (by intro u hu; simp only [Value.cells, List.mem_cons, List.not_mem_nil, or_false] at hu; subst hu; rfl) rfl rfl ?_;intro w_315 hk_316 hs_317 hb_318;replace hb_318 : Box 81 6 col_314 w_315 g_139 #[(.int .i8 1), (.slice ra_305 r_303.1.length rc_306), (.slice a_62 q_61.length cap_63), (.int .i8 q_65), (.slice a_153 ((([] : List ByteArray) ++ q_66).length) cap_154), (.bool q_70), (.bool q_71)] := hb_318;refine lnil ?_;replace oh_310 := oh_310.kp hk_316;replace oh_310 := oh_310.froz 10 (by decide);replace h_60 := (h_60.kpp hg_313).kp hk_316;replace h_60 := h_60.froz 10;replace h_64 := (h_64.kpp hg_313).kp hk_316;replace h_64 := h_64.froz 10;replace h_69 := (h_69.kpp hg_313).kp hk_316;replace h_69 := h_69.froz 10;replace h_75 := (h_75.kpp hg_313).kp hk_316;replace h_75 := h_75.froz 10 (by decide);replace rh_307 := rh_307.kp hk_316;replace rh_307 := (rh_307).toSlF (Froz.pair Froz.str Froz.str);replace h_158 := (h_158.kpp hg_313).kp hk_316;replace h_158 := h_158.froz 10 (by decide);replace hb_5 := (hb_5.kpp hg_313).kp hk_316;replace hb_5 := hb_5.froz 10 (by decide);replace ohb_311 := ohb_311.kp hk_316;replace ohb_311 := ohb_311.froz 10 (by decide);replace hb_35 := (hb_35.kpp hg_313).kp hk_316;replace hb_35 := hb_35.froz 10 (by decide);replace hb_318 := hb_318.froz 10 (by decide);replace hst := (hst.kpp hg_313).kp hk_316 hs_317;replace hst := hst.froz 10 (by decide) (by decide);exact ⟨rfl, _, _, _, _, _, _, _, _, _, _, _, _, _, _, _, _, _, _, _, _, _, _, _, _, _, _, 1, _, _, _, _, _, _, _, _, _, _, _, _, hm, hst, hb_5, oh_310, ohb_311, h_60, h_64, h_69, hb_35, h_75, rh_307, h_64, h_158, hb_318⟩
    refine wskip ?_;exact ⟨rfl, _, _, _, _, _, _, _, _, _, _, _, _, _, _, _, _, _, _, _, _, _, _, _, _, _, _, 1, _, _, _, _, _, _, _, _, _, _, _, _, hm, hst, hb_5, oh_246, ohb_247, h_60, h_64, h_69, hb_35, h_75, h_60, h_64, h_158, hb_298⟩
   refine wcb hm (fun hb hm => go ?_) fun hb hm => go ?_
   ·refine lFa ⟨_, _, rfl⟩ ?_;refine l_bstoreF (off := 0) (v := (.int .i8 2)) hb_162 Tryz.sizeOf36 rfl rfl (by intro u hu; simp only [Value.cells, List.mem_cons, List.not_mem_nil, or_false] at hu; subst hu; rfl) rfl rfl ?_;intro w_319 hk_320 hs_321 hb_322;replace hb_322 : Box 81 6 col_250 w_319 g_139 #[(.int .i8 2), (.slice a_58 q_57.length cap_59), (.slice a_62 q_61.length cap_63), (.int .i8 q_65), (.slice a_153 ((([] : List ByteArray) ++ q_66).length) cap_154), (.bool q_70), (.bool q_71)] := hb_322;refine go ?_;obtain ⟨r_323, hr_324, hm⟩ := bZ hm;replace oh_246 := oh_246.kp hk_320;replace ohb_247 := ohb_247.kp hk_320;refine lcA (c_r23_Reader_pairs 11 2 3 hr_324 rfl oh_246 ohb_247) ?_;rintro _ w_332 ⟨col_334, ra_325, rc_326, oa_328, oc_329, rfl, hg_333, rh_327, oh_330, ohb_331⟩;refine ⟨_, rfl, ?_⟩;refine lFa ⟨_, _, rfl⟩ ?_;replace hb_322 := hb_322.kpp hg_333;refine l_bstoreF (off := 1) (v := (.slice ra_325 r_323.1.length rc_326)) hb_322 Tryz.sizeOf78 rfl rfl (by intro u hu; simp only [Value.cells, List.mem_cons, List.not_mem_nil, or_false] at hu; subst hu; rfl) rfl rfl ?_;intro w_335 hk_336 hs_337 hb_338;replace hb_338 : Box 81 6 col_334 w_335 g_139 #[(.int .i8 2), (.slice ra_325 r_323.1.length rc_326), (.slice a_62 q_61.length cap_63), (.int .i8 q_65), (.slice a_153 ((([] : List ByteArray) ++ q_66).length) cap_154), (.bool q_70), (.bool q_71)] := hb_338;refine go ?_;obtain ⟨r_339, hr_340, hm⟩ := bZ hm;replace oh_330 := oh_330.kp hk_336;replace ohb_331 := ohb_331.kp hk_336;refine lcA (c_r23_Reader_given 12 2 3 hr_340 rfl oh_330 ohb_331) ?_;rintro _ w_348 ⟨col_350, ra_341, rc_342, oa_344, oc_345, rfl, hg_349, rh_343, oh_346, ohb_347⟩;refine ⟨_, rfl, ?_⟩;refine lFa ⟨_, _, rfl⟩ ?_;replace hb_338 := hb_338.kpp hg_349;refine l_bstoreF (off := 2) (v := (.slice ra_341 r_339.1.length rc_342)) hb_338 Tryz.sizeOf78 rfl rfl (by intro u hu; simp only [Value.cells, List.mem_cons, List.not_mem_nil, or_false] at hu; subst hu; rfl) rfl rfl ?_;intro w_351 hk_352 hs_353 hb_354;replace hb_354 : Box 81 6 col_350 w_351 g_139 #[(.int .i8 2), (.slice ra_325 r_323.1.length rc_326), (.slice ra_341 r_339.1.length rc_342), (.int .i8 q_65), (.slice a_153 ((([] : List ByteArray) ++ q_66).length) cap_154), (.bool q_70), (.bool q_71)] := hb_354;refine lnil ?_;replace oh_346 := oh_346.kp hk_352;replace oh_346 := oh_346.froz 11 (by decide);replace h_60 := ((((h_60.kp hk_320).kpp hg_333).kp hk_336).kpp hg_349).kp hk_352;replace h_60 := h_60.froz 11;replace h_64 := ((((h_64.kp hk_320).kpp hg_333).kp hk_336).kpp hg_349).kp hk_352
    replace h_64 := h_64.froz 11;replace h_69 := ((((h_69.kp hk_320).kpp hg_333).kp hk_336).kpp hg_349).kp hk_352;replace h_69 := h_69.froz 11;replace h_75 := ((((h_75.kp hk_320).kpp hg_333).kp hk_336).kpp hg_349).kp hk_352;replace h_75 := h_75.froz 11 (by decide);replace rh_327 := ((rh_327.kp hk_336).kpp hg_349).kp hk_352;replace rh_327 := (rh_327).toSlF (Froz.pair Froz.str Froz.str);replace rh_343 := rh_343.kp hk_352;replace rh_343 := rh_343.froz 11 (by decide);replace h_158 := ((((h_158.kp hk_320).kpp hg_333).kp hk_336).kpp hg_349).kp hk_352;replace h_158 := h_158.froz 11 (by decide);replace hb_5 := ((((hb_5.kp hk_320).kpp hg_333).kp hk_336).kpp hg_349).kp hk_352;replace hb_5 := hb_5.froz 11 (by decide);replace ohb_347 := ohb_347.kp hk_352;replace ohb_347 := ohb_347.froz 11 (by decide);replace hb_35 := ((((hb_35.kp hk_320).kpp hg_333).kp hk_336).kpp hg_349).kp hk_352;replace hb_35 := hb_35.froz 11 (by decide);replace hb_354 := hb_354.froz 11 (by decide);replace hst := ((((hst.kp hk_320 hs_321).kpp hg_333).kp hk_336 hs_337).kpp hg_349).kp hk_352 hs_353;replace hst := hst.froz 11 (by decide) (by decide);replace oh_346 := oh_346.froz 12 (by decide);replace h_60 := h_60.froz 12;replace h_64 := h_64.froz 12;replace h_69 := h_69.froz 12;replace h_75 := h_75.froz 12 (by decide);replace rh_327 := rh_327.froz 12;replace rh_343 := (rh_343).toSlF (Froz.pair Froz.str Froz.str);replace h_158 := h_158.froz 12 (by decide);replace hb_5 := hb_5.froz 12 (by decide);replace ohb_347 := ohb_347.froz 12 (by decide);replace hb_35 := hb_35.froz 12 (by decide);replace hb_354 := hb_354.froz 12 (by decide);replace hst := hst.froz 12 (by decide) (by decide);exact ⟨rfl, _, _, _, _, _, _, _, _, _, _, _, _, _, _, _, _, _, _, _, _, _, _, _, _, _, _, 2, _, _, _, _, _, _, _, _, _, _, _, _, hm, hst, hb_5, oh_346, ohb_347, h_60, h_64, h_69, hb_35, h_75, rh_327, rh_343, h_158, hb_354⟩
   refine wcb hm (fun hb hm => go ?_) fun hb hm => ?_
   ·refine lFa ⟨_, _, rfl⟩ ?_;refine l_bstoreF (off := 0) (v := (.int .i8 3)) hb_162 Tryz.sizeOf36 rfl rfl (by intro u hu; simp only [Value.cells, List.mem_cons, List.not_mem_nil, or_false] at hu; subst hu; rfl) rfl rfl ?_;intro w_355 hk_356 hs_357 hb_358;replace hb_358 : Box 81 6 col_250 w_355 g_139 #[(.int .i8 3), (.slice a_58 q_57.length cap_59), (.slice a_62 q_61.length cap_63), (.int .i8 q_65), (.slice a_153 ((([] : List ByteArray) ++ q_66).length) cap_154), (.bool q_70), (.bool q_71)] := hb_358;refine go ?_;obtain ⟨r_359, hr_360, hm⟩ := bZ hm;replace oh_246 := oh_246.kp hk_356;replace ohb_247 := ohb_247.kp hk_356;refine lcA (c_r23_Reader_take 2 3 hr_360 rfl oh_246 ohb_247) ?_;rintro _ w_365 ⟨col_367, oa_361, oc_362, rfl, hg_366, oh_363, ohb_364⟩;refine ⟨_, rfl, ?_⟩;refine lV (.agg #[(.string r_359.1), (.string (⟨#[]⟩))]) (r_build (l := [_, _]) (qs := [(0, 1), (1, 1)]) Tryz.underlying88 Tryz.zeroValue88 ⟨rfl, Tryz.sizeOf9, rfl, Tryz.sizeOf9, trivial⟩ rfl) <| l_litA (col := col_367) (r := (Rep.pair Rep.str Rep.str)) (xs := ([(r_359.1, ⟨#[]⟩)] : List (ByteArray × ByteArray))) [(.agg #[(.string r_359.1), (.string (⟨#[]⟩))])] 13 (RowsH.ofF (Rows.consF (r := (Rep.pair Rep.str Rep.str)) (x := (r_359.1, ⟨#[]⟩)) (cs := [(.string r_359.1), (.string (⟨#[]⟩))]) (rd_pairI (rd_str r_359.1) (rd_str (⟨#[]⟩))) Rows.nil0)) ?_;intro a_368 w_369 col_370 hg_371 h_372;refine lFa ⟨_, _, rfl⟩ ?_;replace hb_358 := (hb_358.kpp hg_366).gr hg_371;refine l_bstoreF (off := 1) (v := (.slice a_368 (([(r_359.1, ⟨#[]⟩)] : List (ByteArray × ByteArray)).length) 1)) hb_358 Tryz.sizeOf78 rfl rfl (by intro u hu; simp only [Value.cells, List.mem_cons, List.not_mem_nil, or_false] at hu; subst hu; rfl) rfl rfl ?_;intro w_373 hk_374 hs_375 hb_376;replace hb_376 : Box 81 6 col_370 w_373 g_139 #[(.int .i8 3), (.slice a_368 (([(r_359.1, ⟨#[]⟩)] : List (ByteArray × ByteArray)).length) 1), (.slice a_62 q_61.length cap_63), (.int .i8 q_65), (.slice a_153 ((([] : List ByteArray) ++ q_66).length) cap_154), (.bool q_70), (.bool q_71)] := hb_376;refine go ?_;obtain ⟨r_377, hr_378, hm⟩ := bZ hm;replace oh_363 := (oh_363.gr hg_371).kp hk_374;replace ohb_364 := (ohb_364.gr hg_371).kp hk_374;refine lcA (c_r23_Reader_given 14 2 3 hr_378 rfl oh_363 ohb_364) ?_;rintro _ w_386 ⟨col_388, ra_379, rc_380, oa_382, oc_383, rfl, hg_387, rh_381, oh_384, ohb_385⟩;refine ⟨_, rfl, ?_⟩;refine lFa ⟨_, _, rfl⟩ ?_;replace hb_376 := hb_376.kpp hg_387
    refine l_bstoreF (off := 2) (v := (.slice ra_379 r_377.1.length rc_380)) hb_376 Tryz.sizeOf78 rfl rfl (by intro u hu; simp only [Value.cells, List.mem_cons, List.not_mem_nil, or_false] at hu; subst hu; rfl) rfl rfl ?_;intro w_389 hk_390 hs_391 hb_392;replace hb_392 : Box 81 6 col_388 w_389 g_139 #[(.int .i8 3), (.slice a_368 (([(r_359.1, ⟨#[]⟩)] : List (ByteArray × ByteArray)).length) 1), (.slice ra_379 r_377.1.length rc_380), (.int .i8 q_65), (.slice a_153 ((([] : List ByteArray) ++ q_66).length) cap_154), (.bool q_70), (.bool q_71)] := hb_392;refine lnil ?_;replace oh_384 := oh_384.kp hk_390;replace oh_384 := oh_384.froz 13 (by decide);replace h_60 := (((((h_60.kp hk_356).kpp hg_366).gr hg_371).kp hk_374).kpp hg_387).kp hk_390;replace h_60 := h_60.froz 13;replace h_64 := (((((h_64.kp hk_356).kpp hg_366).gr hg_371).kp hk_374).kpp hg_387).kp hk_390;replace h_64 := h_64.froz 13;replace h_69 := (((((h_69.kp hk_356).kpp hg_366).gr hg_371).kp hk_374).kpp hg_387).kp hk_390;replace h_69 := h_69.froz 13;replace h_75 := (((((h_75.kp hk_356).kpp hg_366).gr hg_371).kp hk_374).kpp hg_387).kp hk_390;replace h_75 := h_75.froz 13 (by decide);replace h_372 := ((h_372.kp hk_374).kpp hg_387).kp hk_390;replace h_372 := (h_372).toSlF (Froz.pair Froz.str Froz.str);replace rh_381 := rh_381.kp hk_390;replace rh_381 := rh_381.froz 13 (by decide);replace h_158 := (((((h_158.kp hk_356).kpp hg_366).gr hg_371).kp hk_374).kpp hg_387).kp hk_390;replace h_158 := h_158.froz 13 (by decide);replace hb_5 := (((((hb_5.kp hk_356).kpp hg_366).gr hg_371).kp hk_374).kpp hg_387).kp hk_390;replace hb_5 := hb_5.froz 13 (by decide);replace ohb_385 := ohb_385.kp hk_390;replace ohb_385 := ohb_385.froz 13 (by decide);replace hb_35 := (((((hb_35.kp hk_356).kpp hg_366).gr hg_371).kp hk_374).kpp hg_387).kp hk_390;replace hb_35 := hb_35.froz 13 (by decide);replace hb_392 := hb_392.froz 13 (by decide);replace hst := (((((hst.kp hk_356 hs_357).kpp hg_366).grow hg_371).kp hk_374 hs_375).kpp hg_387).kp hk_390 hs_391;replace hst := hst.froz 13 (by decide) (by decide);replace oh_384 := oh_384.froz 14 (by decide);replace h_60 := h_60.froz 14;replace h_64 := h_64.froz 14;replace h_69 := h_69.froz 14;replace h_75 := h_75.froz 14 (by decide);replace h_372 := h_372.froz 14;replace rh_381 := (rh_381).toSlF (Froz.pair Froz.str Froz.str);replace h_158 := h_158.froz 14 (by decide);replace hb_5 := hb_5.froz 14 (by decide);replace ohb_385 := ohb_385.froz 14 (by decide);replace hb_35 := hb_35.froz 14 (by decide);replace hb_392 := hb_392.froz 14 (by decide);replace hst := hst.froz 14 (by decide) (by decide);exact ⟨rfl, _, _, _, _, _, _, _, _, _, _, _, _, _, _, _, _, _, _, _, _, _, _, _, _, _, _, 3, _, 1, _, _, _, _, _, _, _, _, _, _, hm, hst, hb_5, oh_384, ohb_385, h_60, h_64, h_69, hb_35, h_75, h_372, rh_381, h_158, hb_392⟩
   refine wskip ?_;exact ⟨rfl, _, _, _, _, _, _, _, _, _, _, _, _, _, _, _, _, _, _, _, _, _, _, _, _, _, _, _, _, _, _, _, _, _, _, _, _, _, _, _, hm, hst, hb_5, oh_246, ohb_247, h_60, h_64, h_69, hb_35, h_75, h_60, h_64, h_158, hb_162⟩
  refine go ?_;refine wcb hm (fun hb hm => go ?_) fun hb hm => ?_
  ·obtain ⟨r_393, hr_394, hm⟩ := bZ hm;refine lcA (c_r23_Reader_wrong 2 3 hr_394 rfl h_46 hb_26) ?_;rintro _ w_399 ⟨col_401, oa_395, oc_396, rfl, hg_400, oh_397, ohb_398⟩;refine ⟨_, rfl, ?_⟩;refine lnil ?_;replace h_60 := h_60.kpp hg_400;replace h_64 := h_64.kpp hg_400;replace h_69 := h_69.kpp hg_400;replace h_75 := h_75.kpp hg_400;replace hb_5 := hb_5.kpp hg_400;replace hb_35 := hb_35.kpp hg_400;replace hst := hst.kpp hg_400;exact ⟨rfl, _, _, _, _, _, _, _, _, _, _, _, _, _, hm, hst, hb_5, oh_397, ohb_398, h_60, h_64, h_69, hb_35, h_75⟩
  refine wskip ?_;exact ⟨rfl, _, _, _, _, _, _, _, _, _, _, _, _, _, hm, hst, hb_5, h_46, hb_26, h_60, h_64, h_69, hb_35, h_75⟩
abbrev SP := List TokV × Option FltV × Int × Option FltV
abbrev SR := List TokV × FltV × Int × FltV
abbrev AS := Except FltV Nat
def lateB (late : Option FltV) : FltV := (50, (fltO late).2.1, (fltO late).2.2.1, (fltO late).2.2.2)
structure Wds (W : List TokV) (late : Option FltV) : Prop where
 len : W.length ≤ 1048577
 fin : late = none → ∃ x, W.getLast? = some x ∧ x.1 = 0
def RelP (W : List TokV) (late : Option FltV) (s : SP) : AS → Prop
 | .ok n => s = (W, late, (n : Int), none) ∧ n < W.length
 | .error b => b.1 = 50 ∧ ∃ n : Nat, n ≤ W.length ∧ (s = (W, late, (n : Int), some b) ∨ (s = (W, late, (n : Int), none) ∧ n = W.length ∧ late.isSome = true ∧ b = lateB late))
def RelR (W : List TokV) (late : Option FltV) (s : SR) : AS → Prop
 | .ok n => ∃ z, s = (W, fltO late, (n : Int), (0, z)) ∧ n < W.length
 | .error b => b.1 = 50 ∧ ∃ n : Nat, n ≤ W.length ∧ (s = (W, fltO late, (n : Int), b) ∨ ∃ z, s = (W, fltO late, (n : Int), (0, z)) ∧ n = W.length ∧ late.isSome = true ∧ b = lateB late)
variable {W : List TokV} {late : Option FltV}
def tk (W : List TokV) (n : Nat) : TokV := W[n]?.getD (0, ⟨#[]⟩, 0, 0)
theorem tk_get {n : Nat} (h : n < W.length) : W[n]? = some (tk W n) := by rw [tk, List.getElem?_eq_getElem h]; rfl
def nxA (W : List TokV) (late : Option FltV) (n : Nat) : AS := if n + 1 < W.length then .ok (n + 1) else .error (lateB late)
def failA (W : List TokV) : AS → AS
 | .ok n => .error (50, (tk W n).2.2.1, (tk W n).2.2.2, (tk W n).2.1)
 | .error b => .error b
def isA (W : List TokV) (kd : Int) (tx : ByteArray) : AS → Bool
 | .ok n => decide ((tk W n).1 = kd) && (decide (tx = ⟨#[]⟩) || decide ((tk W n).2.1 = tx))
 | .error _ => false
def goA (W : List TokV) (late : Option FltV) : AS → AS
 | .ok n => nxA W late n
 | .error b => .error b
def tx0 (W : List TokV) : AS → ByteArray
 | .ok n => (tk W n).2.1
 | .error _ => ⟨#[]⟩
def tkA (W : List TokV) (late : Option FltV) (kd : Int) (tx : ByteArray) (A : AS) : AS := if isA W kd tx A = true then goA W late A else failA W A
def txA (W : List TokV) (kd : Int) (tx : ByteArray) (A : AS) : ByteArray := if isA W kd tx A = true then tx0 W A else ⟨#[]⟩
def ms (W : List TokV) : AS → Nat
 | .ok n => W.length - n
 | .error _ => 0
theorem late_ok (hW : Wds W late) {n : Nat} (h : n < W.length) (h2 : ¬ n + 1 < W.length) (hk : (tk W n).1 ≠ 0) : late.isSome = true := by
 cases hl : late with
 | some x => rfl
 | none =>
  obtain ⟨x, hx, hx2⟩ := hW.fin hl
  rw [List.getLast?_eq_getElem?, show W.length - 1 = n by omega, tk_get h] at hx
  rw [Option.some.inj hx] at hk
  exact absurd hx2 hk
theorem nxP (hW : Wds W late) {n : Nat} (h : n < W.length) (hk : (tk W n).1 ≠ 0) : RelP W late (W, late, ((n + 1 : Nat) : Int), none) (nxA W late n) := by
 rw [nxA]
 split
 ·rename_i h2; exact ⟨rfl, h2⟩
 ·rename_i h2; exact ⟨rfl, n + 1, by omega, .inr ⟨rfl, by omega, late_ok hW h h2 hk, rfl⟩⟩
theorem nxR' (hW : Wds W late) {n : Nat} (h : n < W.length) (hk : (tk W n).1 ≠ 0) (z : Int × Int × ByteArray) : RelR W late (W, fltO late, ((n + 1 : Nat) : Int), (0, z)) (nxA W late n) := by
 rw [nxA]
 split
 ·rename_i h2; exact ⟨z, rfl, h2⟩
 ·rename_i h2; exact ⟨rfl, n + 1, by omega, .inr ⟨z, rfl, by omega, late_ok hW h h2 hk, rfl⟩⟩
theorem ms_nx {n : Nat} (h : n < W.length) : ms W (nxA W late n) < ms W (.ok n) := by
 rw [nxA]
 split
 ·show W.length - (n + 1) < W.length - n; omega
 ·show 0 < W.length - n; omega
theorem ms_fail (A : AS) : ms W (failA W A) = 0 := by cases A <;> rfl
theorem ms_tk {kd : Int} {tx : ByteArray} {s : SP} {A : AS} (h : RelP W late s A) : ms W (tkA W late kd tx A) ≤ ms W A := by
 rw [tkA]
 split
 ·cases A with
  | ok n => exact Nat.le_of_lt (ms_nx h.2)
  | error b => exact Nat.le_refl _
 ·rw [ms_fail]; exact Nat.zero_le _
theorem ms_tk_lt {kd : Int} {tx : ByteArray} {s : SP} {A : AS} (h : RelP W late s A) (hi : isA W kd tx A = true) : ms W (tkA W late kd tx A) < ms W A := by
 rw [tkA, if_pos hi]
 cases A with
 | ok n => exact ms_nx h.2
 | error b => cases hi
theorem ms_le {s : SP} (hW : Wds W late) {A : AS} (h : RelP W late s A) : ms W A ≤ 1048577 := by
 have := hW.len
 cases A with
 | ok n => show W.length - n ≤ _; omega
 | error b => exact Nat.zero_le _
/-! ### the program's -/
section
variable {s : SP} {A : AS} (hW : Wds W late) (h : RelP W late s A)
include hW h
def lkA (W : List TokV) : AS → TokV
 | .ok n => tk W n
 | .error _ => (-1, ⟨#[]⟩, 0, 0)
def Seen (s : SP) (A : AS) : Prop := match A with | .ok _ => s.2.2.2 = none | .error b => s.2.2.2 = some b
theorem lookP : ∃ s', m_query_reader_look (s.1, s.2.1, s.2.2.1, s.2.2.2) = some (lkA W A, s') ∧ RelP W late s' A ∧ Seen s' A := by
 have hl := hW.len
 cases A with
 | ok n =>
  obtain ⟨rfl, hn⟩ := h
  refine ⟨(W, late, (n : Int), none), ?_, ⟨rfl, hn⟩, rfl⟩
  rw [m_query_reader_look, if_pos (by rfl), m_query_reader_look_J3, if_pos (decide_eq_true (show (n : Int) < (W.length : Int) by omega))]
  show (at? W (n : Int)).bind _ = _
  rw [at?_nat, tk_get hn]; rfl
 | error b =>
  obtain ⟨hb, n, hn, h | ⟨h, hn2, h2, h3⟩⟩ := h
  ·subst h
   exact ⟨(W, late, (n : Int), some b), rfl, ⟨hb, n, hn, .inl rfl⟩, rfl⟩
  ·subst h
   obtain ⟨x, rfl⟩ := Option.isSome_iff_exists.1 h2
   refine ⟨(W, some x, (n : Int), some b), ?_, ⟨hb, n, hn, .inl rfl⟩, rfl⟩
   rw [m_query_reader_look, if_pos (by rfl), m_query_reader_look_J3, if_neg (nd (show ¬ (n : Int) < (W.length : Int) by omega)), m_query_reader_look_J1, if_pos (by rfl), h3]
   rfl
theorem failP : ∃ s', m_query_reader_fail (s.1, s.2.1, s.2.2.1, s.2.2.2) = some s' ∧ RelP W late s' (failA W A) ∧ ∃ b, failA W A = .error b ∧ s'.2.2.2 = some b := by
 obtain ⟨s1, h1, h2, h3⟩ := lookP hW h
 rw [m_query_reader_fail]
 dsimp only
 rw [h1, Option.bind_some]
 dsimp only
 cases A with
 | ok n =>
  have h3' : s1.2.2.2 = none := h3
  rw [if_pos (by rw [h3']; rfl)]
  obtain ⟨rfl, hn⟩ := h2
  exact ⟨_, rfl, ⟨rfl, n, by omega, .inl rfl⟩, _, rfl, rfl⟩
 | error b =>
  have h3' : s1.2.2.2 = some b := h3
  rw [if_neg (by rw [h3']; simp)]
  exact ⟨_, rfl, h2, _, rfl, h3'⟩
theorem signP (tx : ByteArray) (ht : tx ≠ ⟨#[]⟩) : ∃ s', m_query_reader_sign (s.1, s.2.1, s.2.2.1, s.2.2.2) tx = some (isA W 4 tx A, s') ∧ RelP W late s' (if isA W 4 tx A = true then tkA W late 4 tx A else A) ∧ (isA W 4 tx A = true → s'.2.2.2 = none) := by
 have hl := hW.len
 obtain ⟨s1, h1, h2, h3⟩ := lookP hW h
 rw [m_query_reader_sign]
 dsimp only
 rw [h1, Option.bind_some]
 dsimp only
 cases A with
 | error b => exact ⟨s1, rfl, h2, fun e => by cases e⟩
 | ok n =>
  obtain ⟨rfl, hn⟩ := h2
  show ∃ s', (if (!decide ((tk W n).1 = 4)) = true then _ else m_query_reader_sign_J1 _ (!decide ((tk W n).2.1 = tx))) = _ ∧ _
  by_cases c1 : (tk W n).1 = 4
  ·rw [if_neg (by rw [decide_eq_true c1]; decide)]
   by_cases c2 : (tk W n).2.1 = tx
   ·have hi : isA W 4 tx (.ok n) = true := by rw [isA, decide_eq_true c1, decide_eq_true c2, Bool.or_true]; rfl
    rw [m_query_reader_sign_J1, if_neg (by rw [decide_eq_true c2]; decide), hi, if_pos rfl, tkA, if_pos hi]
    dsimp only
    rw [w64 (by omega)]
    exact ⟨_, rfl, nxP hW hn (by rw [c1]; decide), fun _ => rfl⟩
   ·have hi : isA W 4 tx (.ok n) = false := by rw [isA, decide_eq_false c2, decide_eq_false ht]; simp
    rw [m_query_reader_sign_J1, if_pos (by rw [decide_eq_false c2]; rfl), hi, if_neg (by decide)]
    exact ⟨_, rfl, ⟨rfl, hn⟩, fun e => by cases e⟩
  ·have hi : isA W 4 tx (.ok n) = false := by rw [isA, decide_eq_false c1]; rfl
   rw [if_pos (by rw [decide_eq_false c1]; rfl), m_query_reader_sign_J1, if_pos rfl, hi, if_neg (by decide)]
   exact ⟨_, rfl, ⟨rfl, hn⟩, fun e => by cases e⟩
theorem mustP (tx : ByteArray) (ht : tx ≠ ⟨#[]⟩) : ∃ s', m_query_reader_must (s.1, s.2.1, s.2.2.1, s.2.2.2) tx = some s' ∧ RelP W late s' (tkA W late 4 tx A) ∧ (isA W 4 tx A = true → s'.2.2.2 = none) ∧ (isA W 4 tx A = false → ∃ b, failA W A = .error b ∧ s'.2.2.2 = some b) := by
 obtain ⟨s1, h1, h2, h2'⟩ := signP hW h tx ht
 rw [m_query_reader_must]
 dsimp only
 rw [h1, Option.bind_some]
 dsimp only
 by_cases hi : isA W 4 tx A = true
 ·rw [if_pos hi] at h2
  rw [hi, if_neg (by decide)]
  exact ⟨_, rfl, h2, fun _ => h2' hi, fun e => by cases e⟩
 ·rw [if_neg hi] at h2
  obtain ⟨s2, h3, h4, h5⟩ := failP hW h2
  rw [Bool.eq_false_iff.2 hi, if_pos (by rfl), h3, Option.bind_some, tkA, if_neg hi]
  exact ⟨_, rfl, h4, fun e => (by cases e), fun _ => h5⟩
end
variable {W : List TokV} {late : Option FltV}
def memB (l : List ByteArray) (v : ByteArray) : Bool := l.any fun x => decide (v = x)
theorem memB_cons (x v : ByteArray) (l : List ByteArray) : memB (x :: l) v = (decide (v = x) || memB l v) := rfl
theorem memB_iff {l : List ByteArray} {v : ByteArray} : memB l v = true ↔ v ∈ l := by
 rw [memB, List.any_eq_true]
 exact ⟨fun ⟨x, h, e⟩ => by rw [of_decide_eq_true e]; exact h, fun h => ⟨v, h, decide_eq_true rfl⟩⟩
theorem contains_L1 (v : ByteArray) : ∀ (l : List ByteArray) (k : Nat), ∃ r, m_slices_Index_string_string_L1 v l k = some r ∧ decide (0 ≤ r) = memB l v
 | [], k => ⟨-1, rfl, rfl⟩
 | x :: l, k => by
  rw [m_slices_Index_string_string_L1.eq_2, memB_cons]
  by_cases h : v = x
  ·rw [if_pos (decide_eq_true h), decide_eq_true h]
   exact ⟨_, rfl, by rw [decide_eq_true (by omega)]; rfl⟩
  ·rw [if_neg (nd h), decide_eq_false h]
   exact contains_L1 v l (k + 1)
theorem contains_eq (l : List ByteArray) (v : ByteArray) : m_slices_Contains_string_string l v = some (memB l v) := by
 obtain ⟨r, h1, h2⟩ := contains_L1 v l 0
 rw [m_slices_Contains_string_string, m_slices_Index_string_string, h1, Option.bind_some, h2]
def oneA (W : List TokV) (ws : List ByteArray) : AS → Bool
 | .ok n => decide ((tk W n).1 = 1) && (decide (ws = []) || memB ws (tk W n).2.1)
 | .error _ => false
def onA (W : List TokV) (late : Option FltV) (ws : List ByteArray) (A : AS) : AS := if oneA W ws A = true then goA W late A else failA W A
def onT (W : List TokV) (ws : List ByteArray) (A : AS) : ByteArray := if oneA W ws A = true then tx0 W A else ⟨#[]⟩
theorem oneA_nil (A : AS) : oneA W [] A = isA W 1 ⟨#[]⟩ A := by
 cases A with
 | ok n => rfl
 | error b => rfl
theorem onA_nil (A : AS) : onA W late [] A = tkA W late 1 ⟨#[]⟩ A := by rw [onA, tkA, oneA_nil]
theorem onT_nil (A : AS) : onT W [] A = txA W 1 ⟨#[]⟩ A := by rw [onT, txA, oneA_nil]
theorem ms_on {ws : List ByteArray} {s : SP} {A : AS} (h : RelP W late s A) : ms W (onA W late ws A) ≤ ms W A := by
 rw [onA]
 split
 ·cases A with
  | ok n => exact Nat.le_of_lt (ms_nx h.2)
  | error b => exact Nat.le_refl _
 ·rw [ms_fail]; exact Nat.zero_le _
theorem nameP (hW : Wds W late) {s : SP} {A : AS} (h : RelP W late s A) (ws : List ByteArray) : ∃ s', m_query_reader_name (s.1, s.2.1, s.2.2.1, s.2.2.2) ws = some (onT W ws A, s') ∧ RelP W late s' (onA W late ws A) := by
 have hl := hW.len
 obtain ⟨s1, h1, h2, h3⟩ := lookP hW h
 have hbad : oneA W ws A = false → ∃ s', m_query_reader_name_J2 (lkA W A, s1) true = some (onT W ws A, s') ∧ RelP W late s' (onA W late ws A) := by
  intro ho
  obtain ⟨s2, h4, h5, _⟩ := failP hW h2
  rw [m_query_reader_name_J2, if_pos rfl]
  dsimp only
  rw [h4, Option.bind_some, onT, onA, ho, if_neg (by decide), if_neg (by decide)]
  exact ⟨_, rfl, h5⟩
 have hgood : oneA W ws A = true → ∃ s', m_query_reader_name_J2 (lkA W A, s1) false = some (onT W ws A, s') ∧ RelP W late s' (onA W late ws A) := by
  intro ho
  cases A with
  | error b => cases ho
  | ok n =>
   obtain ⟨rfl, hn⟩ := h2
   have hk : (tk W n).1 = 1 := by
    rw [oneA, Bool.and_eq_true] at ho
    exact of_decide_eq_true ho.1
   rw [m_query_reader_name_J2, if_neg (by decide), m_query_reader_name_J1]
   dsimp only
   rw [onT, onA, ho, if_pos rfl, if_pos rfl, w64 (by omega)]
   exact ⟨_, rfl, nxP hW hn (by rw [hk]; decide)⟩
 rw [m_query_reader_name]
 dsimp only
 rw [h1, Option.bind_some]
 dsimp only
 cases A with
 | error b =>
  rw [if_pos (by show (!decide ((-1 : Int) = 1)) = true; decide)]
  exact hbad rfl
 | ok n =>
  by_cases c1 : (tk W n).1 = 1
  ·rw [if_neg (by show ¬ (!decide ((tk W n).1 = 1)) = true; rw [decide_eq_true c1]; decide)]
   by_cases c2 : ws = []
   ·rw [if_neg (by rw [c2]; decide)]
    exact hgood (by rw [oneA, decide_eq_true c1, decide_eq_true c2]; rfl)
   ·have : 0 < ws.length := List.length_pos_iff.2 c2
    rw [if_pos (decide_eq_true (by omega)), contains_eq, Option.bind_some]
    show ∃ s', m_query_reader_name_J2 (lkA W (.ok n), s1) (!memB ws (tk W n).2.1) = _ ∧ _
    cases c3 : memB ws (tk W n).2.1 with
    | true => exact hgood (by rw [oneA, decide_eq_true c1, c3, Bool.or_true]; rfl)
    | false => exact hbad (by rw [oneA, decide_eq_true c1, decide_eq_false c2, c3]; rfl)
  ·rw [if_pos (by show (!decide ((tk W n).1 = 1)) = true; rw [decide_eq_false c1]; rfl)]
   exact hbad (by rw [oneA, decide_eq_false c1]; rfl)
/-! ### the document's -/
section
variable {s : SR} {A : AS} (hW : Wds W late) (h : RelR W late s A)
include hW h
theorem nextR : m_r23_Reader_next (s.1, (s.2.1.1, s.2.1.2.1, s.2.1.2.2.1, s.2.1.2.2.2), s.2.2.1, (s.2.2.2.1, s.2.2.2.2.1, s.2.2.2.2.2.1, s.2.2.2.2.2.2)) = some (lkA W A) := by
 cases A with
 | ok n =>
  obtain ⟨z, rfl, hn⟩ := h
  rw [m_r23_Reader_next, if_neg (by show ¬ (!decide ((0 : Int) = 0)) = true; decide), m_r23_Reader_next_J1, if_neg (nd (show ¬ (W.length : Int) ≤ (n : Int) by omega))]
  show (at? W (n : Int)).bind _ = _
  rw [at?_nat, tk_get hn]; rfl
 | error b =>
  obtain ⟨hb, n, hn, h | ⟨z, h, hn2, h2, h3⟩⟩ := h
  ·subst h
   rw [m_r23_Reader_next, if_pos (by show (!decide (b.1 = 0)) = true; rw [hb]; decide)]; rfl
  ·subst h
   rw [m_r23_Reader_next, if_neg (by show ¬ (!decide ((0 : Int) = 0)) = true; decide), m_r23_Reader_next_J1, if_pos (decide_eq_true (show (W.length : Int) ≤ (n : Int) by omega))]; rfl
theorem isR (kd : Int) (tx : ByteArray) (hk : kd ≠ -1) : m_r23_Reader_is (s.1, (s.2.1.1, s.2.1.2.1, s.2.1.2.2.1, s.2.1.2.2.2), s.2.2.1, (s.2.2.2.1, s.2.2.2.2.1, s.2.2.2.2.2.1, s.2.2.2.2.2.2)) kd tx = some (isA W kd tx A) := by
 rw [m_r23_Reader_is]
 dsimp only
 rw [nextR hW h, Option.bind_some]
 cases A with
 | error b => rw [if_neg (nd (by show ¬ (-1 : Int) = kd; exact fun e => hk e.symm))]; rfl
 | ok n =>
  show (if (decide ((tk W n).1 = kd)) = true then (if (decide (tx = (⟨#[]⟩))) = true then (m_r23_Reader_is_J1 true) else (m_r23_Reader_is_J1 (decide ((tk W n).2.1 = tx)))) else (m_r23_Reader_is_J1 false)) = some (decide ((tk W n).1 = kd) && (decide (tx = ⟨#[]⟩) || decide ((tk W n).2.1 = tx)))
  cases decide ((tk W n).1 = kd) <;> cases decide (tx = ⟨#[]⟩) <;> rfl
theorem wrongR : ∃ s', m_r23_Reader_wrong (s.1, (s.2.1.1, s.2.1.2.1, s.2.1.2.2.1, s.2.1.2.2.2), s.2.2.1, (s.2.2.2.1, s.2.2.2.2.1, s.2.2.2.2.2.1, s.2.2.2.2.2.2)) = some s' ∧ RelR W late s' (failA W A) ∧ s'.2.2.2.1 ≠ 0 ∧ failA W A = .error s'.2.2.2 := by
 cases A with
 | ok n =>
  obtain ⟨z, rfl, hn⟩ := h
  rw [m_r23_Reader_wrong, if_neg (by show ¬ (!decide ((0 : Int) = 0)) = true; decide), if_pos (decide_eq_true (show (n : Int) < (W.length : Int) by omega))]
  show ∃ s', (at? W (n : Int)).bind _ = _ ∧ _
  rw [at?_nat, tk_get hn, Option.bind_some]
  exact ⟨_, rfl, ⟨rfl, n, by omega, .inl rfl⟩, by show (50 : Int) ≠ 0; decide, rfl⟩
 | error b =>
  obtain ⟨hb, n, hn, h | ⟨z, h, hn2, h2, h3⟩⟩ := h
  ·subst h
   rw [m_r23_Reader_wrong, if_pos (by show (!decide (b.1 = 0)) = true; rw [hb]; decide)]
   exact ⟨_, rfl, ⟨hb, n, hn, .inl rfl⟩, by show b.1 ≠ 0; rw [hb]; decide, rfl⟩
  ·subst h
   rw [m_r23_Reader_wrong, if_neg (by show ¬ (!decide ((0 : Int) = 0)) = true; decide), if_neg (nd (show ¬ (n : Int) < (W.length : Int) by omega))]
   exact ⟨_, rfl, ⟨hb, n, hn, .inl (by rw [h3]; rfl)⟩, by show (50 : Int) ≠ 0; decide, by rw [h3]; rfl⟩
theorem takeR (kd : Int) (tx : ByteArray) (hk : kd ≠ -1) (hk0 : kd ≠ 0) : ∃ s', m_r23_Reader_take (s.1, (s.2.1.1, s.2.1.2.1, s.2.1.2.2.1, s.2.1.2.2.2), s.2.2.1, (s.2.2.2.1, s.2.2.2.2.1, s.2.2.2.2.2.1, s.2.2.2.2.2.2)) kd tx = some (txA W kd tx A, s') ∧ RelR W late s' (tkA W late kd tx A) ∧ (isA W kd tx A = true → s'.2.2.2.1 = 0) ∧ (isA W kd tx A = false → s'.2.2.2.1 ≠ 0 ∧ failA W A = .error s'.2.2.2) := by
 have hl := hW.len
 rw [m_r23_Reader_take]
 dsimp only
 rw [isR hW h kd tx hk, Option.bind_some]
 by_cases hi : isA W kd tx A = true
 ·rw [hi, if_neg (by decide), txA, tkA, if_pos hi, if_pos hi]
  cases A with
  | error b => cases hi
  | ok n =>
   obtain ⟨z, rfl, hn⟩ := h
   have hkn : (tk W n).1 = kd := by
    rw [isA, Bool.and_eq_true] at hi
    exact of_decide_eq_true hi.1
   dsimp only
   rw [w64 (x := (n : Int) + 1) (by omega), w64 (by omega), show (n : Int) + 1 - 1 = (n : Int) by omega, at?_nat, tk_get hn, Option.bind_some]
   exact ⟨_, rfl, nxR' hW hn (by rw [hkn]; exact hk0) z, fun _ => rfl, fun e => by cases e⟩
 ·obtain ⟨s2, h4, h5, h6⟩ := wrongR hW h
  rw [Bool.eq_false_iff.2 hi, if_pos (by rfl), h4, Option.bind_some, txA, tkA, if_neg hi, if_neg hi]
  exact ⟨_, rfl, h5, fun e => (by cases e), fun _ => h6⟩
theorem oneR_L1 {N : Nat} (ws : List ByteArray) (hl : ws.length ≤ 100) : ∀ (f i : Nat), ws.length < f + i → i ≤ ws.length → ∃ s', m_r23_Reader_one_L1 N ws f s.1 s.2.1.1 s.2.1.2.1 s.2.1.2.2.1 s.2.1.2.2.2 s.2.2.1 s.2.2.2.1 s.2.2.2.2.1 s.2.2.2.2.2.1 s.2.2.2.2.2.2 (i : Int) =
   some (if ((ws.drop i).any fun w => isA W 1 w A) = true then tx0 W A else ⟨#[]⟩, s') ∧ RelR W late s' (if ((ws.drop i).any fun w => isA W 1 w A) = true then goA W late A else failA W A)
 | 0, i, h1, h2 => by omega
 | f + 1, i, h1, h2 => by
  rw [m_r23_Reader_one_L1.eq_2]
  by_cases hi : i < ws.length
  ·have hd : ws.drop i = ws[i] :: ws.drop (i + 1) := List.drop_eq_getElem_cons hi
   rw [if_pos (decide_eq_true (by omega)), at?_lt hi, Option.bind_some, isR hW h 1 _ (by decide), Option.bind_some, hd, List.any_cons]
   by_cases hw : isA W 1 ws[i] A = true
   ·obtain ⟨s2, h4, h5, _⟩ := takeR hW h 1 ws[i] (by decide) (by decide)
    rw [hw, if_pos rfl, h4, Option.bind_some, Bool.true_or, if_pos rfl, if_pos rfl]
    rw [txA, if_pos hw]
    rw [tkA, if_pos hw] at h5
    exact ⟨_, rfl, h5⟩
   ·rw [Bool.eq_false_iff.2 hw, if_neg (by decide), Bool.false_or, w64 (by omega), show (i : Int) + 1 = ((i + 1 : Nat) : Int) by omega]
    exact oneR_L1 ws hl f (i + 1) (by omega) (by omega)
  ·obtain ⟨s2, h4, h5, _⟩ := wrongR hW h
   rw [if_neg (nd (by omega)), List.drop_eq_nil_of_le (by omega), h4, Option.bind_some, List.any_nil, if_neg (by decide), if_neg (by decide)]
   exact ⟨_, rfl, h5⟩
theorem oneR {N : Nat} (ws : List ByteArray) (hl : ws.length ≤ 100) (hN : 100 < N) (h0 : ws ≠ []) (hne : memB ws ⟨#[]⟩ = false) : ∃ s', m_r23_Reader_one N (s.1, (s.2.1.1, s.2.1.2.1, s.2.1.2.2.1, s.2.1.2.2.2), s.2.2.1, (s.2.2.2.1, s.2.2.2.2.1, s.2.2.2.2.2.1, s.2.2.2.2.2.2)) ws = some (onT W ws A, s') ∧ RelR W late s' (onA W late ws A) := by
 have e : (ws.any fun w => isA W 1 w A) = oneA W ws A := by
  cases A with
  | error b => exact List.any_eq_false.2 fun x _ => by rw [isA]; decide
  | ok n =>
   rw [oneA, decide_eq_false h0, Bool.false_or, Bool.eq_iff_iff, List.any_eq_true, Bool.and_eq_true, decide_eq_true_iff, memB_iff]
   constructor
   ·rintro ⟨x, hx, h2⟩
    rw [isA, decide_eq_false (fun e : x = ⟨#[]⟩ => by have := memB_iff.2 (e ▸ hx); rw [hne] at this; cases this), Bool.false_or, Bool.and_eq_true, decide_eq_true_iff, decide_eq_true_iff] at h2
    exact ⟨h2.1, h2.2 ▸ hx⟩
   ·rintro ⟨h1, h2⟩
    exact ⟨_, h2, by rw [isA, decide_eq_true h1, decide_eq_true rfl, Bool.or_true]; rfl⟩
 obtain ⟨s', h1, h2⟩ := oneR_L1 hW h (N := N) ws hl N 0 (by omega) (by omega)
 rw [List.drop_zero, e] at h1 h2
 exact ⟨s', h1, h2⟩
end
variable {W : List TokV} {late : Option FltV}
theorem tk_err {kd : Int} {tx : ByteArray} {b : FltV} : tkA W late kd tx (.error b) = .error b := rfl
theorem on_err {ws : List ByteArray} {b : FltV} : onA W late ws (.error b) = .error b := rfl
theorem is_ok {kd : Int} {tx : ByteArray} {A : AS} (h : isA W kd tx A = true) : ∃ n, A = .ok n := by
 cases A with
 | ok n => exact ⟨n, rfl⟩
 | error b => cases h
theorem nameP0 (hW : Wds W late) {s : SP} {A : AS} (h : RelP W late s A) : ∃ s', m_query_reader_name (s.1, s.2.1, s.2.2.1, s.2.2.2) ([] : List ByteArray) = some (txA W 1 ⟨#[]⟩ A, s') ∧ RelP W late s' (tkA W late 1 ⟨#[]⟩ A) := by
 have := nameP hW h []
 rwa [onT_nil, onA_nil] at this
theorem chk32 {a : Nat} (h : a ≤ 1048579) (x : ByteArray × ByteArray) (l : List (ByteArray × ByteArray)) (hl : l.length ≤ a) : (l.length + [x].length) * 32 ≤ 140737488355328 ∧ l.length + [x].length ≤ maxLen := by
 have : [x].length = 1 := rfl
 rw [this]; simp only [maxLen]; omega
theorem chk16 {a : Nat} (h : a ≤ 1048579) (x : ByteArray) (l : List ByteArray) (hl : l.length ≤ a) : (l.length + ([x] : List ByteArray).length) * 16 ≤ 140737488355328 ∧ l.length + ([x] : List ByteArray).length ≤ maxLen := by
 have : [x].length = 1 := rfl
 rw [this]; simp only [maxLen]; omega
theorem pairs_sim (hW : Wds W late) {N M : Nat} : ∀ (m : Nat) (A : AS) (sp : SP) (sr : SR) (l : List (ByteArray × ByteArray)) (f g : Nat), ms W A ≤ m → RelP W late sp A → RelR W late sr A → l.length + ms W A ≤ 1048578 → m < f → m < g →
  ∃ L A' sp' sr', m_query_reader_pairs_L1 N f sp.1 sp.2.1 sp.2.2.1 sp.2.2.2 l = some (L, sp') ∧
   m_r23_Reader_pairs_L1 M g sr.1 sr.2.1.1 sr.2.1.2.1 sr.2.1.2.2.1 sr.2.1.2.2.2 sr.2.2.1 sr.2.2.2.1 sr.2.2.2.2.1 sr.2.2.2.2.2.1 sr.2.2.2.2.2.2 l = some (L, sr') ∧
   RelP W late sp' A' ∧ RelR W late sr' A' ∧ ms W A' ≤ ms W A ∧ L.length ≤ l.length + ms W A + 1 ∧ (∀ b, tkA W late 1 ⟨#[]⟩ A = .error b → A' = .error b)
 | m, A, sp, sr, l, 0, g, hm, hp, hr, hl, hf, hg => by omega
 | m, A, sp, sr, l, f + 1, 0, hm, hp, hr, hl, hf, hg => by omega
 | m, A, sp, sr, l, f + 1, g + 1, hm, hp, hr, hl, hf, hg => by
  obtain ⟨p1, a1, b1⟩ := nameP0 hW hp
  obtain ⟨p2, a2, b2, _⟩ := mustP hW b1 ⟨#[61]⟩ (by decide)
  obtain ⟨p3, a3, b3⟩ := nameP0 hW b2
  obtain ⟨p4, a4, b4, _⟩ := signP hW b3 ⟨#[44]⟩ (by decide)
  obtain ⟨r1, c1, d1, _⟩ := takeR hW hr 1 ⟨#[]⟩ (by decide) (by decide)
  obtain ⟨r2, c2, d2, _⟩ := takeR hW d1 4 ⟨#[61]⟩ (by decide) (by decide)
  obtain ⟨r3, c3, d3, _⟩ := takeR hW d2 1 ⟨#[]⟩ (by decide) (by decide)
  have m1 := ms_tk (kd := 1) (tx := ⟨#[]⟩) hp
  have m2 := ms_tk (kd := 4) (tx := ⟨#[61]⟩) b1
  have m3 := ms_tk (kd := 1) (tx := ⟨#[]⟩) b2
  have he : ∀ b, tkA W late 1 ⟨#[]⟩ A = .error b → tkA W late 1 ⟨#[]⟩ (tkA W late 4 ⟨#[61]⟩ (tkA W late 1 ⟨#[]⟩ A)) = .error b := fun b e => by rw [e, tk_err, tk_err]
  rw [m_query_reader_pairs_L1.eq_2, a1, Option.bind_some]
  dsimp only
  rw [a2, Option.bind_some, a3, Option.bind_some]
  dsimp only
  rw [chk_pos (chk32 (a := 1048578) (by omega) _ _ (by omega)), a4, Option.bind_some]
  rw [m_r23_Reader_pairs_L1.eq_2, c1, Option.bind_some]
  dsimp only
  rw [c2, Option.bind_some]
  dsimp only
  rw [c3, Option.bind_some]
  dsimp only
  rw [chk_pos (chk32 (a := 1048578) (by omega) _ _ (by omega)), isR hW d3 4 ⟨#[44]⟩ (by decide), Option.bind_some]
  generalize hA3 : tkA W late 1 ⟨#[]⟩ (tkA W late 4 ⟨#[61]⟩ (tkA W late 1 ⟨#[]⟩ A)) = A3 at *
  generalize (txA W 1 ⟨#[]⟩ A, txA W 1 ⟨#[]⟩ (tkA W late 4 ⟨#[61]⟩ (tkA W late 1 ⟨#[]⟩ A))) = x
  by_cases hi : isA W 4 ⟨#[44]⟩ A3 = true
  ·rw [if_pos hi] at b4
   have m4 := ms_tk_lt b3 hi
   obtain ⟨r4, c4, d4, _⟩ := takeR hW d3 4 ⟨#[44]⟩ (by decide) (by decide)
   rw [hi, if_neg (by decide), if_neg (by decide), c4, Option.bind_some]
   dsimp only
   obtain ⟨L, A', sp', sr', i1, i2, i3, i4, i5, i6, i7⟩ := pairs_sim hW (N := N) (M := M) (m - 1) (tkA W late 4 ⟨#[44]⟩ A3) p4 r4 (l ++ [x]) f g (by omega) b4 d4 (by rw [List.length_append]; simp only [List.length_cons, List.length_nil]; omega) (by omega) (by omega)
   refine ⟨L, A', sp', sr', i1, i2, i3, i4, by omega, ?_, ?_⟩
   ·rw [List.length_append] at i6
    simp only [List.length_cons, List.length_nil] at i6
    omega
   ·intro b e
    have := he b e
    rw [this] at hi; cases hi
  ·rw [if_neg hi] at b4
   rw [Bool.eq_false_iff.2 hi, if_pos (by decide), if_pos (by decide)]
   exact ⟨_, A3, _, _, rfl, rfl, b4, d3, by omega, by rw [List.length_append]; simp only [List.length_cons, List.length_nil]; omega, he⟩
theorem given_sim (hW : Wds W late) {N M : Nat} {A : AS} {sp : SP} {sr : SR} (hN : 1048577 < N) (hM : 1048577 < M) (hp : RelP W late sp A) (hr : RelR W late sr A) :
  ∃ L A' sp' sr', m_query_reader_given N (sp.1, sp.2.1, sp.2.2.1, sp.2.2.2) = some (L, sp') ∧
   m_r23_Reader_given M (sr.1, (sr.2.1.1, sr.2.1.2.1, sr.2.1.2.2.1, sr.2.1.2.2.2), sr.2.2.1, (sr.2.2.2.1, sr.2.2.2.2.1, sr.2.2.2.2.2.1, sr.2.2.2.2.2.2)) = some (L, sr') ∧
   RelP W late sp' A' ∧ RelR W late sr' A' ∧ ms W A' ≤ ms W A ∧ L.length ≤ 1048578 ∧ (∀ b, A = .error b → A' = .error b) := by
 obtain ⟨p1, a1, b1, _⟩ := signP hW hp ⟨#[124]⟩ (by decide)
 rw [m_query_reader_given, m_r23_Reader_given]
 dsimp only
 rw [a1, Option.bind_some, isR hW hr 4 ⟨#[124]⟩ (by decide), Option.bind_some]
 dsimp only
 by_cases hi : isA W 4 ⟨#[124]⟩ A = true
 ·rw [if_pos hi] at b1
  have m1 := ms_tk_lt hp hi
  have m0 := ms_le hW hp
  obtain ⟨r1, c1, d1, _⟩ := takeR hW hr 4 ⟨#[124]⟩ (by decide) (by decide)
  rw [hi, if_pos rfl, if_neg (by decide), c1, Option.bind_some]
  dsimp only
  obtain ⟨L, A', sp', sr', i1, i2, i3, i4, i5, i6, i7⟩ := pairs_sim hW (N := N) (M := M) 1048577 (tkA W late 4 ⟨#[124]⟩ A) p1 r1 [] N M (by omega) b1 d1 (by simp; omega) (by omega) (by omega)
  rw [m_query_reader_pairs, m_r23_Reader_pairs]
  dsimp only
  rw [i1, i2, Option.bind_some, Option.bind_some]
  refine ⟨L, A', sp', sr', rfl, rfl, i3, i4, by omega, ?_, ?_⟩
  ·rw [List.length_nil] at i6; omega
  ·intro b e; rw [e] at hi; cases hi
 ·rw [if_neg hi] at b1
  rw [Bool.eq_false_iff.2 hi, if_neg (by decide), if_pos (by decide)]
  exact ⟨_, A, _, _, rfl, rfl, b1, hr, Nat.le_refl _, by simp, fun b e => e⟩
theorem order_sim (hW : Wds W late) {N M : Nat} : ∀ (m : Nat) (A : AS) (sp : SP) (sr : SR) (l : List ByteArray) (f g : Nat), ms W A ≤ m → RelP W late sp A → RelR W late sr A → l.length + ms W A ≤ 1048578 → m < f → m + 2 < g →
  ∃ Lp Lr A' sp1 sp' sr', m_query_reader_name (sp.1, sp.2.1, sp.2.2.1, sp.2.2.2) ([] : List ByteArray) = some (txA W 1 ⟨#[]⟩ A, sp1) ∧
   m_query_reader_order_L1 N f sp1.1 sp1.2.1 sp1.2.2.1 sp1.2.2.2 (l ++ ([txA W 1 ⟨#[]⟩ A] : List ByteArray)) = some (Lp, sp') ∧
   m_r23_Reader_order_L1 M g sr.1 sr.2.1.1 sr.2.1.2.1 sr.2.1.2.2.1 sr.2.1.2.2.2 sr.2.2.1 sr.2.2.2.1 sr.2.2.2.2.1 sr.2.2.2.2.2.1 sr.2.2.2.2.2.2 l false = some (Lr, sr') ∧
   RelP W late sp' A' ∧ RelR W late sr' A' ∧ ms W A' ≤ ms W A ∧ Lp.length ≤ l.length + ms W A + 1 ∧ Lr.length ≤ l.length + ms W A + 1 ∧ (∀ n, A' = .ok n → Lp = Lr) ∧ (∀ b, A = .error b → A' = .error b)
 | m, A, sp, sr, l, 0, g, hm, hp, hr, hl, hf, hg => by omega
 | m, A, sp, sr, l, f + 1, 0, hm, hp, hr, hl, hf, hg => by omega
 | m, A, sp, sr, l, f + 1, g + 1, hm, hp, hr, hl, hf, hg => by
  obtain ⟨p1, a1, b1⟩ := nameP0 hW hp
  have m1 := ms_tk (kd := 1) (tx := ⟨#[]⟩) hp
  obtain ⟨p2, a2, b2, _⟩ := signP hW b1 ⟨#[44]⟩ (by decide)
  suffices key : ∃ Lp Lr A' sp' sr', m_query_reader_order_L1 N (f + 1) p1.1 p1.2.1 p1.2.2.1 p1.2.2.2 (l ++ ([txA W 1 ⟨#[]⟩ A] : List ByteArray)) = some (Lp, sp') ∧
    m_r23_Reader_order_L1 M (g + 1) sr.1 sr.2.1.1 sr.2.1.2.1 sr.2.1.2.2.1 sr.2.1.2.2.2 sr.2.2.1 sr.2.2.2.1 sr.2.2.2.2.1 sr.2.2.2.2.2.1 sr.2.2.2.2.2.2 l false = some (Lr, sr') ∧
    RelP W late sp' A' ∧ RelR W late sr' A' ∧ ms W A' ≤ ms W A ∧ Lp.length ≤ l.length + ms W A + 1 ∧ Lr.length ≤ l.length + ms W A + 1 ∧ (∀ n, A' = .ok n → Lp = Lr) ∧ (∀ b, A = .error b → A' = .error b) by
   obtain ⟨Lp, Lr, A', sp', sr', h⟩ := key
   exact ⟨Lp, Lr, A', p1, sp', sr', a1, h⟩
  rw [m_query_reader_order_L1.eq_2, m_r23_Reader_order_L1.eq_2, if_pos (by decide), a2, Option.bind_some]
  dsimp only
  by_cases hz : sr.2.2.2.1 = 0
  ·-- goes on
   obtain ⟨r1, c1, d1, _⟩ := takeR hW hr 1 ⟨#[]⟩ (by decide) (by decide)
   rw [decide_eq_true hz, m_r23_Reader_order_J1, if_pos rfl, c1, Option.bind_some]
   dsimp only
   rw [chk_pos (chk16 (a := 1048578) (by omega) _ _ (by omega)), isR hW d1 4 ⟨#[41]⟩ (by decide), Option.bind_some]
   have hl1 : (l ++ ([txA W 1 ⟨#[]⟩ A] : List ByteArray)).length = l.length + 1 := by rw [List.length_append]; rfl
   generalize hA1 : tkA W late 1 ⟨#[]⟩ A = A1 at *
   have he : ∀ b, A = .error b → A1 = .error b := fun b e => by rw [← hA1, e, tk_err]
   by_cases h1 : isA W 4 ⟨#[41]⟩ A1 = true
   ·obtain ⟨n, rfl⟩ := is_ok h1
    have h2 : isA W 4 ⟨#[44]⟩ (.ok n : AS) = false := by
     rw [isA, Bool.and_eq_true, Bool.or_eq_true] at h1
     have h3 := of_decide_eq_true (h1.2.resolve_left (by decide))
     rw [isA, h3, Bool.and_eq_false_iff]
     exact .inr (by decide)
    rw [h2, if_neg (by decide)] at b2
    obtain ⟨p3, a3, b3, _⟩ := mustP hW b2 ⟨#[41]⟩ (by decide)
    obtain ⟨r2, c2, d2, _⟩ := takeR hW d1 4 ⟨#[41]⟩ (by decide) (by decide)
    have m2 := ms_tk (kd := 4) (tx := ⟨#[41]⟩) b2
    obtain ⟨g', rfl⟩ : ∃ k, g = k + 1 := ⟨g - 1, by omega⟩
    rw [h2, if_neg (by decide), a3, Option.bind_some, h1, if_neg (by decide), m_r23_Reader_order_L1.eq_2, if_neg (by decide), m_r23_Reader_order_J1, if_neg (by decide), c2, Option.bind_some]
    exact ⟨_, _, _, _, _, rfl, rfl, b3, d2, by omega, by omega, by omega, fun _ _ => rfl, fun b e => by rw [he b e, tk_err]⟩
   ·rw [Bool.eq_false_iff.2 h1, if_pos (show (!false) = true from rfl), isR hW d1 4 ⟨#[44]⟩ (by decide), Option.bind_some]
    by_cases h2 : isA W 4 ⟨#[44]⟩ A1 = true
    ·rw [if_pos h2] at b2
     have m2 := ms_tk_lt b1 h2
     obtain ⟨r2, c2, d2, _⟩ := takeR hW d1 4 ⟨#[44]⟩ (by decide) (by decide)
     obtain ⟨Lp, Lr, A', sp1, sp', sr', i1, i2, i3, i4, i5, i6, i7, i8, i9, i10⟩ := order_sim hW (N := N) (M := M) (m - 1) (tkA W late 4 ⟨#[44]⟩ A1) p2 r2 (l ++ ([txA W 1 ⟨#[]⟩ A] : List ByteArray)) f g (by omega) b2 d2 (by omega) (by omega) (by omega)
     rw [h2, if_pos rfl, if_neg (by decide), m_r23_Reader_order_J2, c2, Option.bind_some]
     dsimp only
     rw [i1, Option.bind_some]
     dsimp only
     rw [chk_pos (chk16 (a := 1048579) (by omega) _ _ (by omega))]
     refine ⟨Lp, Lr, A', sp', sr', i2, i3, i4, i5, by omega, by omega, by omega, i9, ?_⟩
     intro b e
     have := he b e
     rw [this] at h2; cases h2
    ·rw [if_neg h2] at b2
     obtain ⟨p3, a3, b3, _⟩ := mustP hW b2 ⟨#[41]⟩ (by decide)
     obtain ⟨r2, c2, d2, z2, z2'⟩ := wrongR hW d1
     obtain ⟨r3, c3, d3, _, z3⟩ := takeR hW d2 4 ⟨#[44]⟩ (by decide) (by decide)
     obtain ⟨b, hb⟩ : ∃ b, failA W A1 = .error b := by cases A1 <;> exact ⟨_, rfl⟩
     have e1 : tkA W late 4 ⟨#[41]⟩ A1 = .error b := by rw [tkA, if_neg h1]; exact hb
     rw [hb] at d3 z3
     obtain ⟨r4, c4, d4, _⟩ := takeR hW d3 4 ⟨#[41]⟩ (by decide) (by decide)
     obtain ⟨g', rfl⟩ : ∃ k, g = k + 1 := ⟨g - 1, by omega⟩
     rw [Bool.eq_false_iff.2 h2, if_neg (by decide), a3, Option.bind_some, if_pos (by decide), c2, Option.bind_some, m_r23_Reader_order_J2, c3, Option.bind_some]
     dsimp only
     rw [m_r23_Reader_order_L1.eq_2, if_pos (by decide), decide_eq_false (z3 rfl).1, m_r23_Reader_order_J1, if_neg (by decide), c4, Option.bind_some]
     rw [e1] at b3
     exact ⟨_, _, _, _, _, rfl, rfl, b3, d4, Nat.zero_le _, by omega, by omega, fun n e => (by cases e), fun b' e => (by
      have h5 := he b' e
      rw [h5] at hb
      cases hb; rfl)⟩
  ·-- something was wrong before
   obtain ⟨b, rfl⟩ : ∃ b, A = .error b := by
    cases A with
    | ok n =>
     obtain ⟨z, rfl, hn⟩ := hr
     exact absurd rfl hz
    | error b => exact ⟨b, rfl⟩
   rw [tk_err] at b1 b2 a2
   obtain ⟨p3, a3, b3, _⟩ := mustP hW b2 ⟨#[41]⟩ (by decide)
   obtain ⟨r2, c2, d2, _⟩ := takeR hW hr 4 ⟨#[41]⟩ (by decide) (by decide)
   rw [tk_err, show isA W 4 ⟨#[44]⟩ (.error b : AS) = false from rfl, if_neg (by decide), decide_eq_false hz, m_r23_Reader_order_J1, if_neg (by decide), c2, Option.bind_some]
   rw [show (if isA W 4 ⟨#[44]⟩ (.error b : AS) = true then tkA W late 4 ⟨#[44]⟩ (.error b) else (.error b : AS)) = .error b from rfl] at b3
   rw [a3, Option.bind_some]
   exact ⟨_, _, .error b, _, _, rfl, rfl, b3, d2, Nat.zero_le _, by rw [List.length_append]; simp only [List.length_cons, List.length_nil]; omega, by omega, fun n e => (by cases e), fun b' e => (by cases e; rfl)⟩
variable {W : List TokV} {late : Option FltV}
abbrev PrV := ByteArray × ByteArray
abbrev QV := Int × List PrV × List PrV × Int × List ByteArray × (Bool × Bool)
def Bnd (L : List QV) : Prop := L.length ≤ 1048578 ∧ ∀ q ∈ L, q.2.1.length ≤ 1048579 ∧ q.2.2.1.length ≤ 1048579 ∧ q.2.2.2.2.1.length ≤ 1048579
def Out (P : Option (List QV × Option FltV)) (R : Option (List QV × FltV)) : Prop := ∃ L e, P = some (L, e) ∧ R = some (L, fltO e) ∧ (∀ b, e = some b → b.1 ≠ 0) ∧ Bnd L
theorem Bnd.nil : Bnd [] := ⟨by simp, by simp⟩
abbrev KP := (List (Int × ByteArray × Int × Int)) → (Option (Int × Int × Int × ByteArray)) → Int → (Option (Int × Int × Int × ByteArray)) → Int → (List ByteArray) → Bool → Bool → (List (Int × (List (ByteArray × ByteArray)) × (List (ByteArray × ByteArray)) × Int × (List ByteArray) × (Bool × Bool))) → Int → Option ((List (Int × (List (ByteArray × ByteArray)) × (List (ByteArray × ByteArray)) × Int × (List ByteArray) × (Bool × Bool))) × (Option (Int × Int × Int × ByteArray)))
abbrev KR := Int → Int → Int → ByteArray → (List (Int × ByteArray × Int × Int)) → Int → Int → Int → ByteArray → Int → Int → Int → Int → ByteArray → Int → (List (ByteArray × ByteArray)) → (List (ByteArray × ByteArray)) → Int → (List ByteArray) → Bool → Bool → (List (Int × (List (ByteArray × ByteArray)) × (List (ByteArray × ByteArray)) × Int × (List ByteArray) × (Bool × Bool))) → Int → Option ((List (Int × (List (ByteArray × ByteArray)) × (List (ByteArray × ByteArray)) × Int × (List ByteArray) × (Bool × Bool))) × (Int × Int × Int × ByteArray))
def Goes2 (W : List TokV) (late : Option FltV) (kP : KP) (kR : KR) (K : Int) (A1 : AS) : Prop := ∀ (A' : AS) (p : SP) (r : SR) (how : Int) (ord : List ByteArray) (c0 c1 : Bool) (l : List QV) (v1 v2 v3 : Int) (v4 : ByteArray), ms W A' < ms W A1 → RelP W late p A' → RelR W late r A' → ord.length ≤ 1048579 → Bnd l → l.length + ms W A' ≤ 1048578 →
 Out (kP p.1 p.2.1 p.2.2.1 p.2.2.2 how ord c0 c1 l K) (kR v1 v2 v3 v4 r.1 r.2.1.1 r.2.1.2.1 r.2.1.2.2.1 r.2.1.2.2.2 r.2.2.1 r.2.2.2.1 r.2.2.2.2.1 r.2.2.2.2.2.1 r.2.2.2.2.2.2 0 [] [] how ord c0 c1 l (IntKind.i64.wrap (K + 1)))
theorem fail_50 {b : FltV} {A : AS} {s : SP} (h : RelP W late s A) (e : failA W A = .error b) : b.1 ≠ 0 := by
 cases A with
 | ok n => cases e; show (50 : Int) ≠ 0; decide
 | error b' =>
  cases e
  rw [h.1]; decide
section
variable {kP : KP} {kR : KR} {K : Int} {A1 A4 : AS} {p : SP} {r : SR} (hW : Wds W late) (hG : Goes2 W late kP kR K A1) (hm : ms W A4 ≤ ms W A1) (hp : RelP W late p A4)
include hW hG hm hp
theorem fin_q {A5 : AS} (hr : RelR W late r A5) (how : Int) (ord : List ByteArray) (b0 b1 : Bool) (l : List QV) (v1 v2 v3 : Int) (v4 : ByteArray) (kd : Int) (aP aR gP gR : List PrV)
  (hgood : isA W 4 ⟨#[59]⟩ A4 = true → A5 = A4 ∧ aP = aR ∧ gP = gR ∧ kd ≠ 0 ∧ aP.length ≤ 1048579 ∧ gP.length ≤ 1048579) (hbad : isA W 4 ⟨#[59]⟩ A4 = false → isA W 4 ⟨#[59]⟩ A5 = false ∧ failA W A5 = failA W A4) (ho : ord.length ≤ 1048579) (hl : l.length + ms W A1 ≤ 1048578) (hb : Bnd l) :
  Out (m_query_Parse_J2 how b0 b1 l kP K (([] : List ByteArray) ++ ord) p.1 p.2.1 p.2.2.1 p.2.2.2 how ord b0 b1 kd aP gP)
   (m_r23_Parse_J3 v1 v2 v3 v4 l K kR r.1 r.2.1.1 r.2.1.2.1 r.2.1.2.2.1 r.2.1.2.2.2 r.2.2.1 r.2.2.2.1 r.2.2.2.2.1 r.2.2.2.2.2.1 r.2.2.2.2.2.2 0 [] [] how ord b0 b1 kd aR gR how (([] : List ByteArray) ++ ord) b0 b1) := by
 obtain ⟨p1, a1, x1, y1, z1⟩ := mustP hW hp ⟨#[59]⟩ (by decide)
 obtain ⟨r1, c1, d1, e1, f1⟩ := takeR hW hr 4 ⟨#[59]⟩ (by decide) (by decide)
 rw [m_query_Parse_J2, m_r23_Parse_J3, a1, Option.bind_some, c1, Option.bind_some]
 dsimp only
 by_cases hi : isA W 4 ⟨#[59]⟩ A4 = true
 ·have m1 := ms_tk_lt hp hi
  obtain ⟨rfl, rfl, rfl, hkd, ha, hg⟩ := hgood hi
  rw [y1 hi, e1 hi, if_neg (by decide), if_neg (by decide), if_pos (by rw [decide_eq_false hkd]; rfl)]
  have hc : ∀ x : QV, (l.length + [x].length) * 96 ≤ 140737488355328 ∧ l.length + [x].length ≤ maxLen := fun x => by
   have : [x].length = 1 := rfl
   rw [this]; simp only [maxLen]; omega
  rw [chk_pos (hc _), chk_pos (hc _), m_r23_Parse_J1]
  have := hG (tkA W late 4 ⟨#[59]⟩ A5) p1 r1 how ord b0 b1 (l ++ [(kd, aP, gP, how, ([] : List ByteArray) ++ ord, (b0, b1))]) v1 v2 v3 v4 (by omega) x1 d1 ho ⟨by rw [List.length_append]; simp only [List.length_cons, List.length_nil]; omega, fun q hq => by
   rcases List.mem_append.1 hq with hq | hq
   ·exact hb.2 q hq
   ·rw [List.mem_singleton.1 hq]; exact ⟨ha, hg, by show ord.length ≤ _; exact ho⟩⟩ (by rw [List.length_append]; simp only [List.length_cons, List.length_nil]; omega)
  rw [y1 hi, e1 hi] at this
  exact this
 ·obtain ⟨b, g1, g2⟩ := z1 (Bool.eq_false_iff.2 hi)
  obtain ⟨k1, k2⟩ := hbad (Bool.eq_false_iff.2 hi)
  obtain ⟨h1, h2⟩ := f1 k1
  have hbr : b = r1.2.2.2 := by rw [k2, g1] at h2; cases h2; rfl
  rw [g2, if_pos (by rfl), if_pos (by rw [decide_eq_false h1]; rfl)]
  exact ⟨[], some b, rfl, by rw [hbr]; rfl, fun x e => by cases e; exact fail_50 hp g1, Bnd.nil⟩
variable (hr : RelR W late r A4)
include hr
theorem fin_s (how : Int) (ord : List ByteArray) (b0 b1 : Bool) (l : List QV) (v1 v2 v3 : Int) (v4 : ByteArray) (hP hR : Int) (oP oR : List ByteArray) (cP dP cR dR : Bool) (how0 : Int) (o0 : List ByteArray) (x0 y0 : Bool)
  (he : isA W 4 ⟨#[59]⟩ A4 = true → hP = hR ∧ oP = oR ∧ cP = cR ∧ dP = dR ∧ oP.length ≤ 1048579) (hl : l.length + ms W A1 ≤ 1048578) (hb : Bnd l) :
  Out ((m_query_reader_must (p.1, p.2.1, p.2.2.1, p.2.2.2) (⟨#[59]⟩)).bind fun r_227 => if (!r_227.2.2.2.isSome) = true then (kP r_227.1 r_227.2.1 r_227.2.2.1 r_227.2.2.2 hP oP cP dP l K) else (m_query_Parse_J2 how b0 b1 l kP K (([] : List ByteArray) ++ ord) r_227.1 r_227.2.1 r_227.2.2.1 r_227.2.2.2 hP oP cP dP 0 ([] : List (ByteArray × ByteArray)) ([] : List (ByteArray × ByteArray))))
   (m_r23_Parse_J3 v1 v2 v3 v4 l K kR r.1 r.2.1.1 r.2.1.2.1 r.2.1.2.2.1 r.2.1.2.2.2 r.2.2.1 r.2.2.2.1 r.2.2.2.2.1 r.2.2.2.2.2.1 r.2.2.2.2.2.2 0 [] [] hR oR cR dR 0 [] [] how0 o0 x0 y0) := by
 obtain ⟨p1, a1, x1, y1, z1⟩ := mustP hW hp ⟨#[59]⟩ (by decide)
 obtain ⟨r1, c1, d1, e1, f1⟩ := takeR hW hr 4 ⟨#[59]⟩ (by decide) (by decide)
 rw [m_r23_Parse_J3, a1, Option.bind_some, c1, Option.bind_some]
 dsimp only
 by_cases hi : isA W 4 ⟨#[59]⟩ A4 = true
 ·have m1 := ms_tk_lt hp hi
  obtain ⟨rfl, rfl, rfl, rfl, hol⟩ := he hi
  rw [y1 hi, e1 hi, if_pos (by rfl), if_neg (by decide), if_neg (by decide), m_r23_Parse_J1]
  have := hG (tkA W late 4 ⟨#[59]⟩ A4) p1 r1 hP oP cP dP l v1 v2 v3 v4 (by omega) x1 d1 hol hb (by omega)
  rw [y1 hi, e1 hi] at this
  exact this
 ·obtain ⟨b, g1, g2⟩ := z1 (Bool.eq_false_iff.2 hi)
  obtain ⟨h1, h2⟩ := f1 (Bool.eq_false_iff.2 hi)
  have hbr : b = r1.2.2.2 := by rw [g1] at h2; cases h2; rfl
  rw [tkA, if_neg hi, g1] at x1
  obtain ⟨p2, a2, x2, y2, z2⟩ := mustP hW x1 ⟨#[59]⟩ (by decide)
  obtain ⟨b', g3, g4⟩ := z2 rfl
  have hbb : b' = b := by cases g3; rfl
  rw [if_neg (by rw [g2]; exact fun e => by cases e), m_query_Parse_J2, a2, Option.bind_some, g4, if_pos (by rfl), if_pos (by rw [decide_eq_false h1]; rfl)]
  exact ⟨[], some b', rfl, by rw [hbb, hbr]; rfl, fun x e => by cases e; rw [hbb]; exact fail_50 hp g1, Bnd.nil⟩
end
variable {W : List TokV} {late : Option FltV}
theorem ff : ¬ (false = true) := by decide
theorem onT_mem {ws : List ByteArray} {A : AS} (h : oneA W ws A = true) (h0 : ws ≠ []) : onT W ws A ∈ ws := by
 rw [onT, if_pos h]
 cases A with
 | error b => cases h
 | ok n =>
  rw [oneA, decide_eq_false h0, Bool.false_or, Bool.and_eq_true] at h
  exact memB_iff.1 h.2
theorem on_not {ws : List ByteArray} {A : AS} (h : ∀ w ∈ ws, onT W ws A ≠ w) (h0 : ws ≠ []) : ∃ b, onA W late ws A = .error b := by
 have : oneA W ws A ≠ true := fun e => h _ (onT_mem e h0) rfl
 rw [onA, if_neg this]
 cases A <;> exact ⟨_, rfl⟩
theorem clone_eq {l : List ByteArray} (h : l.length ≤ 1048579) : m_slices_Clone_string_string l = some (([] : List ByteArray) ++ l) := by
 rw [m_slices_Clone_string_string, chk_pos]
 simp only [List.length_nil, maxLen]; omega
theorem order_full (hW : Wds W late) {N M : Nat} (hN : 1048577 < N) (hM : 1048580 < M) {A : AS} {sp : SP} {sr : SR} (hp : RelP W late sp A) (hr : RelR W late sr A) :
  ∃ Lp Lr A' sp' sr', m_query_reader_order N (sp.1, sp.2.1, sp.2.2.1, sp.2.2.2) = some (Lp, sp') ∧
   m_r23_Reader_order M (sr.1, (sr.2.1.1, sr.2.1.2.1, sr.2.1.2.2.1, sr.2.1.2.2.2), sr.2.2.1, (sr.2.2.2.1, sr.2.2.2.2.1, sr.2.2.2.2.2.1, sr.2.2.2.2.2.2)) = some (Lr, sr') ∧
   RelP W late sp' A' ∧ RelR W late sr' A' ∧ ms W A' ≤ ms W A ∧ (∀ n, A' = .ok n → Lp = Lr ∧ Lp.length ≤ 1048579) := by
 obtain ⟨p1, a1, b1, _⟩ := mustP hW hp ⟨#[40]⟩ (by decide)
 obtain ⟨r1, c1, d1, _⟩ := takeR hW hr 4 ⟨#[40]⟩ (by decide) (by decide)
 have m1 := ms_tk (kd := 4) (tx := ⟨#[40]⟩) hp
 have m0 := ms_le hW hp
 rw [m_query_reader_order, m_r23_Reader_order]
 dsimp only
 rw [a1, Option.bind_some, c1, Option.bind_some]
 dsimp only
 rw [isR hW d1 4 ⟨#[41]⟩ (by decide), Option.bind_some]
 generalize tkA W late 4 ⟨#[40]⟩ A = A1 at *
 obtain ⟨p2, a2, b2, _⟩ := signP hW b1 ⟨#[41]⟩ (by decide)
 rw [a2, Option.bind_some]
 dsimp only
 by_cases hi : isA W 4 ⟨#[41]⟩ A1 = true
 ·obtain ⟨r2, c2, d2, _⟩ := takeR hW d1 4 ⟨#[41]⟩ (by decide) (by decide)
  have m2 := ms_tk (kd := 4) (tx := ⟨#[41]⟩) b1
  rw [if_pos hi] at b2
  obtain ⟨M, rfl⟩ : ∃ k, M = k + 1 := ⟨M - 1, by omega⟩
  rw [hi, if_pos rfl, m_r23_Reader_order_L1.eq_2, if_neg (by decide), m_r23_Reader_order_J1, if_neg (by decide), c2, Option.bind_some]
  exact ⟨_, _, _, _, _, rfl, rfl, b2, d2, by omega, fun _ _ => ⟨rfl, by simp⟩⟩
 ·rw [if_neg hi] at b2
  obtain ⟨Lp, Lr, A', sp1, sp', sr', i1, i2, i3, i4, i5, i6, i7, i8, i9, i10⟩ := order_sim hW (N := N) (M := M) 1048577 A1 p2 r1 [] N M (by omega) b2 d1 (by simp; omega) (by omega) (by omega)
  rw [Bool.eq_false_iff.2 hi, if_neg (by decide), i1, Option.bind_some]
  rw [List.length_nil] at i7
  exact ⟨Lp, Lr, A', sp', sr', i2, i3, i4, i5, by omega, fun n e => ⟨i9 n e, by omega⟩⟩
section
variable {kP : KP} {kR : KR} {K : Int} {A1 : AS} {p : SP} {r : SR} {N M : Nat} (hW : Wds W late) (hN : 1048577 < N) (hM : 1048580 < M) (hG : Goes2 W late kP kR K A1) (hp : RelP W late p A1) (hr : RelR W late r A1)
include hW hN hM hG hp hr
theorem body_sim (how : Int) (ord : List ByteArray) (b0 b1 : Bool) (l : List QV) (v1 v2 v3 : Int) (v4 : ByteArray) (ho : ord.length ≤ 1048579) (hl : l.length + ms W A1 ≤ 1048578) (hb : Bnd l) :
  Out (m_query_Parse_J1 N how ord b0 b1 l kP p.1 p.2.1 p.2.2.1 p.2.2.2 K)
   (m_r23_Parse_J2 M v1 v2 v3 v4 0 [] [] how ord b0 b1 l K kR r.1 r.2.1.1 r.2.1.2.1 r.2.1.2.2.1 r.2.1.2.2.2 r.2.2.1 r.2.2.2.1 r.2.2.2.2.1 r.2.2.2.2.2.1 r.2.2.2.2.2.2) := by
 have hcc : (([] : List ByteArray).length + ord.length) * 16 ≤ 140737488355328 ∧ ([] : List ByteArray).length + ord.length ≤ maxLen := by simp only [List.length_nil, maxLen]; omega
 obtain ⟨p2, a2, x2⟩ := nameP hW hp ([⟨#[117, 115, 101]⟩, ⟨#[112, 114, 117, 110, 101]⟩, ⟨#[99, 104, 97, 110, 99, 101]⟩, ⟨#[97, 115, 107]⟩, ⟨#[97, 108, 108]⟩] : List ByteArray)
 obtain ⟨r2, c2, y2⟩ := oneR hW hr (N := M) ([⟨#[117, 115, 101]⟩, ⟨#[112, 114, 117, 110, 101]⟩, ⟨#[99, 104, 97, 110, 99, 101]⟩, ⟨#[97, 115, 107]⟩, ⟨#[97, 108, 108]⟩] : List ByteArray) (by decide) (by omega) (by decide) (by decide)
 have m2 := ms_on (ws := ([⟨#[117, 115, 101]⟩, ⟨#[112, 114, 117, 110, 101]⟩, ⟨#[99, 104, 97, 110, 99, 101]⟩, ⟨#[97, 115, 107]⟩, ⟨#[97, 108, 108]⟩] : List ByteArray)) hp
 have hno := on_not (W := W) (late := late) (ws := ([⟨#[117, 115, 101]⟩, ⟨#[112, 114, 117, 110, 101]⟩, ⟨#[99, 104, 97, 110, 99, 101]⟩, ⟨#[97, 115, 107]⟩, ⟨#[97, 108, 108]⟩] : List ByteArray)) (A := A1)
 rw [m_query_Parse_J1, m_r23_Parse_J2, clone_eq ho, Option.bind_some, chk_pos hcc, a2, Option.bind_some, c2, Option.bind_some]
 dsimp only
 generalize onA W late ([⟨#[117, 115, 101]⟩, ⟨#[112, 114, 117, 110, 101]⟩, ⟨#[99, 104, 97, 110, 99, 101]⟩, ⟨#[97, 115, 107]⟩, ⟨#[97, 108, 108]⟩] : List ByteArray) A1 = A2 at *
 generalize onT W ([⟨#[117, 115, 101]⟩, ⟨#[112, 114, 117, 110, 101]⟩, ⟨#[99, 104, 97, 110, 99, 101]⟩, ⟨#[97, 115, 107]⟩, ⟨#[97, 108, 108]⟩] : List ByteArray) A1 = T at *
 clear a2 c2
 by_cases t1 : T = ⟨#[117, 115, 101]⟩
 ·-- use
  rw [decide_eq_true t1, if_pos rfl, if_pos rfl]
  obtain ⟨p3, a3, x3⟩ := nameP hW x2 ([⟨#[102, 105, 108, 108]⟩, ⟨#[100, 101, 103, 114, 101, 101]⟩, ⟨#[111, 114, 100, 101, 114]⟩] : List ByteArray)
  obtain ⟨r3, c3, y3⟩ := oneR hW y2 (N := M) ([⟨#[102, 105, 108, 108]⟩, ⟨#[100, 101, 103, 114, 101, 101]⟩, ⟨#[111, 114, 100, 101, 114]⟩] : List ByteArray) (by decide) (by omega) (by decide) (by decide)
  have m3 := ms_on (ws := ([⟨#[102, 105, 108, 108]⟩, ⟨#[100, 101, 103, 114, 101, 101]⟩, ⟨#[111, 114, 100, 101, 114]⟩] : List ByteArray)) x2
  rw [a3, Option.bind_some, m_r23_Reader_use]
  dsimp only
  rw [c3, Option.bind_some]
  dsimp only
  generalize onA W late ([⟨#[102, 105, 108, 108]⟩, ⟨#[100, 101, 103, 114, 101, 101]⟩, ⟨#[111, 114, 100, 101, 114]⟩] : List ByteArray) A2 = A3 at *
  generalize onT W ([⟨#[102, 105, 108, 108]⟩, ⟨#[100, 101, 103, 114, 101, 101]⟩, ⟨#[111, 114, 100, 101, 114]⟩] : List ByteArray) A2 = T2 at *
  clear a3 c3
  by_cases u1 : T2 = ⟨#[102, 105, 108, 108]⟩
  ·rw [decide_eq_true u1, if_pos rfl, if_pos rfl, m_r23_Reader_use_J1, Option.bind_some]
   exact fin_s hW hG (by omega) x3 y3 how ord b0 b1 l v1 v2 v3 v4 1 1 [] [] b0 b1 b0 b1 how _ b0 b1 (fun _ => ⟨rfl, rfl, rfl, rfl, by simp⟩) hl hb
  ·rw [decide_eq_false u1, if_neg ff, if_neg ff]
   by_cases u2 : T2 = ⟨#[100, 101, 103, 114, 101, 101]⟩
   ·rw [decide_eq_true u2, if_pos rfl, if_pos rfl, m_r23_Reader_use_J1, Option.bind_some]
    exact fin_s hW hG (by omega) x3 y3 how ord b0 b1 l v1 v2 v3 v4 2 2 [] [] b0 b1 b0 b1 how _ b0 b1 (fun _ => ⟨rfl, rfl, rfl, rfl, by simp⟩) hl hb
   ·rw [decide_eq_false u2, if_neg ff, if_neg ff]
    by_cases u3 : T2 = ⟨#[111, 114, 100, 101, 114]⟩
    ·obtain ⟨Lp, Lr, A4, p4, r4, i1, i2, i3, i4, i5, i6⟩ := order_full hW hN hM x3 y3
     rw [decide_eq_true u3, if_pos rfl, if_pos rfl, i1, Option.bind_some, i2, Option.bind_some, m_r23_Reader_use_J1, Option.bind_some]
     exact fin_s hW hG (by omega) i3 i4 how ord b0 b1 l v1 v2 v3 v4 3 3 Lp Lr b0 b1 b0 b1 how _ b0 b1 (fun e => by
      obtain ⟨n, hn⟩ := is_ok e
      obtain ⟨j1, j2⟩ := i6 n hn
      exact ⟨rfl, j1, rfl, rfl, j2⟩) hl hb
    ·rw [decide_eq_false u3, if_neg ff, if_neg ff, m_r23_Reader_use_J1, Option.bind_some]
     exact fin_s hW hG (by omega) x3 y3 how ord b0 b1 l v1 v2 v3 v4 how how [] [] b0 b1 b0 b1 how _ b0 b1 (fun _ => ⟨rfl, rfl, rfl, rfl, by simp⟩) hl hb
 ·rw [decide_eq_false t1, if_neg ff, if_neg ff]
  by_cases t2 : T = ⟨#[112, 114, 117, 110, 101]⟩
  ·-- prune
   rw [decide_eq_true t2, if_pos rfl, if_pos rfl]
   obtain ⟨p3, a3, x3⟩ := nameP hW x2 ([⟨#[98, 97, 114, 114, 101, 110]⟩, ⟨#[97, 112, 97, 114, 116]⟩] : List ByteArray)
   obtain ⟨r3, c3, y3⟩ := oneR hW y2 (N := M) ([⟨#[98, 97, 114, 114, 101, 110]⟩, ⟨#[97, 112, 97, 114, 116]⟩] : List ByteArray) (by decide) (by omega) (by decide) (by decide)
   have m3 := ms_on (ws := ([⟨#[98, 97, 114, 114, 101, 110]⟩, ⟨#[97, 112, 97, 114, 116]⟩] : List ByteArray)) x2
   obtain ⟨p4, a4, x4⟩ := nameP hW x3 ([⟨#[111, 110]⟩, ⟨#[111, 102, 102]⟩] : List ByteArray)
   obtain ⟨r4, c4, y4⟩ := oneR hW y3 (N := M) ([⟨#[111, 110]⟩, ⟨#[111, 102, 102]⟩] : List ByteArray) (by decide) (by omega) (by decide) (by decide)
   have m4 := ms_on (ws := ([⟨#[111, 110]⟩, ⟨#[111, 102, 102]⟩] : List ByteArray)) x3
   have hno2 := on_not (W := W) (late := late) (ws := ([⟨#[98, 97, 114, 114, 101, 110]⟩, ⟨#[97, 112, 97, 114, 116]⟩] : List ByteArray)) (A := A2)
   rw [a3, Option.bind_some, m_r23_Reader_prune]
   dsimp only
   rw [c3, Option.bind_some]
   dsimp only
   rw [c4, Option.bind_some]
   dsimp only
   generalize hA3 : onA W late ([⟨#[98, 97, 114, 114, 101, 110]⟩, ⟨#[97, 112, 97, 114, 116]⟩] : List ByteArray) A2 = A3 at *
   generalize onT W ([⟨#[98, 97, 114, 114, 101, 110]⟩, ⟨#[97, 112, 97, 114, 116]⟩] : List ByteArray) A2 = T2 at *
   have herr : ∀ b, A3 = .error b → onA W late ([⟨#[111, 110]⟩, ⟨#[111, 102, 102]⟩] : List ByteArray) A3 = .error b := fun b e => by rw [e, on_err]
   generalize onA W late ([⟨#[111, 110]⟩, ⟨#[111, 102, 102]⟩] : List ByteArray) A3 = A4 at *
   generalize onT W ([⟨#[111, 110]⟩, ⟨#[111, 102, 102]⟩] : List ByteArray) A3 = T3 at *
   by_cases u1 : T2 = ⟨#[97, 112, 97, 114, 116]⟩
   ·have u2 : T2 ≠ ⟨#[98, 97, 114, 114, 101, 110]⟩ := by rw [u1]; decide
    rw [decide_eq_true u1, if_pos rfl, a4, Option.bind_some, decide_eq_false u2, if_neg ff, m_r23_Reader_prune_J1, Option.bind_some]
    exact fin_s hW hG (by omega) x4 y4 how ord b0 b1 l v1 v2 v3 v4 how how ord ord b0 _ b0 _ how _ b0 b1 (fun _ => ⟨rfl, rfl, rfl, rfl, ho⟩) hl hb
   ·rw [decide_eq_false u1, if_neg ff, a4, Option.bind_some]
    by_cases u2 : T2 = ⟨#[98, 97, 114, 114, 101, 110]⟩
    ·rw [decide_eq_true u2, if_pos rfl, m_r23_Reader_prune_J1, Option.bind_some]
     exact fin_s hW hG (by omega) x4 y4 how ord b0 b1 l v1 v2 v3 v4 how how ord ord _ b1 _ b1 how _ b0 b1 (fun _ => ⟨rfl, rfl, rfl, rfl, ho⟩) hl hb
    ·rw [decide_eq_false u2, if_neg ff, m_r23_Reader_prune_J1, Option.bind_some]
     obtain ⟨b, hb'⟩ := hno2 (fun w hw => by
      rcases List.mem_cons.1 hw with rfl | hw
      ·exact u2
      ·rw [List.mem_singleton.1 hw]; exact u1) (by decide)
     exact fin_s hW hG (by omega) x4 y4 how ord b0 b1 l v1 v2 v3 v4 how how ord ord _ b1 b0 _ how _ b0 b1 (fun e => by rw [herr b hb'] at e; cases e) hl hb
  ·rw [decide_eq_false t2, if_neg ff, if_neg ff]
   have m1 := ms_le hW hp
   by_cases t3 : T = ⟨#[99, 104, 97, 110, 99, 101]⟩
   ·-- chance
    rw [decide_eq_true t3, if_pos rfl, if_pos rfl]
    obtain ⟨p3, a3, x3, _⟩ := lookP hW x2
    rw [a3, Option.bind_some, isR hW y2 4 ⟨#[59]⟩ (by decide), Option.bind_some]
    dsimp only
    obtain ⟨L, A', sp', sr', i1, i2, i3, i4, i5, i6, i7⟩ := pairs_sim hW (N := N) (M := M) 1048577 A2 p3 r2 [] N M (by omega) x3 y2 (by simp; omega) (by omega) (by omega)
    rw [List.length_nil] at i6
    by_cases k1 : (lkA W A2).1 = 4
    ·obtain ⟨n, rfl⟩ : ∃ n, A2 = .ok n := by
      cases A2 with
      | ok n => exact ⟨n, rfl⟩
      | error b => cases k1
     rw [decide_eq_true k1, if_neg (by decide)]
     by_cases k2 : isA W 4 ⟨#[59]⟩ (.ok n) = true
     ·rw [k2, if_neg (by decide)]
      exact fin_q hW hG (by omega) x3 y2 how ord b0 b1 l v1 v2 v3 v4 1 [] [] [] [] (fun _ => ⟨rfl, rfl, rfl, by decide, by simp, by simp⟩) (fun e => by rw [k2] at e; cases e) ho hl hb
     ·rw [Bool.eq_false_iff.2 k2, if_pos (by decide), m_r23_Reader_pairs]
      dsimp only
      rw [i2, Option.bind_some]
      have e1 : tkA W late 1 ⟨#[]⟩ (.ok n) = failA W (.ok n) := by
       rw [tkA, if_neg]
       rw [isA, decide_eq_false (show ¬ (tk W n).1 = 1 by rw [show (tk W n).1 = 4 from k1]; decide), Bool.false_and]; decide
      have e2 := i7 _ e1
      subst e2
      exact fin_q hW hG (by omega) x3 i4 how ord b0 b1 l v1 v2 v3 v4 1 [] L [] [] (fun e => absurd e k2) (fun _ => ⟨rfl, rfl⟩) ho hl hb
    ·have k2 : isA W 4 ⟨#[59]⟩ A2 = false := by
      cases A2 with
      | error b => rfl
      | ok n => rw [isA, decide_eq_false (show ¬ (tk W n).1 = 4 from k1)]; rfl
     rw [decide_eq_false k1, if_pos (by decide), k2, if_pos (by decide), m_query_reader_pairs, m_r23_Reader_pairs]
     dsimp only
     rw [i1, i2, Option.bind_some, Option.bind_some]
     exact fin_q hW hG (by omega) i3 i4 how ord b0 b1 l v1 v2 v3 v4 1 L L [] [] (fun _ => ⟨rfl, rfl, rfl, by decide, by omega, by simp⟩) (fun e => ⟨e, rfl⟩) ho hl hb
   ·rw [decide_eq_false t3, if_neg ff, if_neg ff]
    by_cases t4 : T = ⟨#[97, 115, 107]⟩
    ·-- ask
     rw [decide_eq_true t4, if_pos rfl, if_pos rfl]
     obtain ⟨L, A', sp', sr', i1, i2, i3, i4, i5, i6, i7⟩ := pairs_sim hW (N := N) (M := M) 1048577 A2 p2 r2 [] N M (by omega) x2 y2 (by simp; omega) (by omega) (by omega)
     rw [List.length_nil] at i6
     obtain ⟨G, A3, sp3, sr3, j1, j2, j3, j4, j5, j6, j7⟩ := given_sim hW (N := N) (M := M) (by omega) (by omega) i3 i4
     rw [m_query_reader_pairs, m_r23_Reader_pairs]
     dsimp only
     rw [i1, i2, Option.bind_some, Option.bind_some]
     dsimp only
     rw [j1, j2, Option.bind_some, Option.bind_some]
     exact fin_q hW hG (by omega) j3 j4 how ord b0 b1 l v1 v2 v3 v4 2 L L G G (fun _ => ⟨rfl, rfl, rfl, by decide, by omega, by omega⟩) (fun e => ⟨e, rfl⟩) ho hl hb
    ·rw [decide_eq_false t4, if_neg ff, if_neg ff]
     by_cases t5 : T = ⟨#[97, 108, 108]⟩
     ·-- all
      rw [decide_eq_true t5, if_pos rfl, if_pos rfl]
      obtain ⟨p3, a3, x3⟩ := nameP0 hW x2
      obtain ⟨r3, c3, y3, _⟩ := takeR hW y2 1 ⟨#[]⟩ (by decide) (by decide)
      have m3 := ms_tk (kd := 1) (tx := ⟨#[]⟩) x2
      obtain ⟨G, A3, sp3, sr3, j1, j2, j3, j4, j5, j6, j7⟩ := given_sim hW (N := N) (M := M) (by omega) (by omega) x3 y3
      rw [a3, c3, Option.bind_some, Option.bind_some]
      dsimp only
      rw [j1, j2, Option.bind_some, Option.bind_some]
      exact fin_q hW hG (by omega) j3 j4 how ord b0 b1 l v1 v2 v3 v4 3 _ _ G G (fun _ => ⟨rfl, rfl, rfl, by decide, by simp, by omega⟩) (fun e => ⟨e, rfl⟩) ho hl hb
     ·rw [decide_eq_false t5, if_neg ff, if_neg ff]
      obtain ⟨b, hb'⟩ := hno (fun w hw => by
       rcases List.mem_cons.1 hw with rfl | hw
       ·exact t1
       ·rcases List.mem_cons.1 hw with rfl | hw
        ·exact t2
        ·rcases List.mem_cons.1 hw with rfl | hw
         ·exact t3
         ·rcases List.mem_cons.1 hw with rfl | hw
          ·exact t4
          ·rw [List.mem_singleton.1 hw]; exact t5) (by decide)
      exact fin_q hW hG (by omega) x2 y2 how ord b0 b1 l v1 v2 v3 v4 0 [] [] [] [] (fun e => by rw [hb'] at e; cases e) (fun e => ⟨e, rfl⟩) ho hl hb
end
def m_l23_told_J1 (v_17 : Int) (v_18 : Int) (v_19 : Int) (v_20 : ByteArray) : Option ((Int × Int × Int × ByteArray) × Bool) :=
  some ((0, 0, 0, ⟨#[]⟩), false)
def m_l23_told_J2 (v_49 : Bool) (f_51 : (Option (Int × Int × Int × ByteArray))) : Option ((Int × Int × Int × ByteArray) × Bool) :=
  if v_49 = true then (f_51.bind fun f_53 => some ((f_53.1, f_53.2.1, f_53.2.2.1, f_53.2.2.2), true)) else (m_l23_told_J1 0 0 0 (⟨#[]⟩))
def m_l23_told (p0_err : (Option (Int × Int × Int × ByteArray))) : Option ((Int × Int × Int × ByteArray) × Bool) :=
  if (!p0_err.isSome) = true then (some ((0, 0, 0, ⟨#[]⟩), true)) else (optC (p0_err) (m_l23_told_J2 false (none : (Option (Int × Int × Int × ByteArray)))) (fun f_68 => m_l23_told_J2 true (some f_68)))
theorem c_l23_told {col : Col} {w0 : World} {ve0 : Value} {p0_err : (Option (Int × Int × Int × ByteArray))} {r : ((Int × Int × Int × ByteArray) × Bool)} (hm : m_l23_told p0_err = some r) (he0 : Rd (Rep.err 57 26 (Rep.pair (Rep.int .i64) (Rep.pair (Rep.int .i64) (Rep.pair (Rep.int .i64) Rep.str)))) col w0 [ve0] p0_err) (hgl : Gl (.iface 146 (.agg #[.pointer (some ⟨4, 30, none⟩)])) col w0) :
    Calls Tryz.prog 26 #[ve0] w0 (fun e w' => ∃ (col' : Col), e = .returned (.tuple #[(.agg #[(.int .i64 r.1.1), (.int .i64 r.1.2.1), (.int .i64 r.1.2.2.1), (.string r.1.2.2.2)]), (.bool r.2)]) ∧ Grow col w0 col' w') := by
 refine calls_ofR (m := 19) Tryz.func26 rfl rfl rfl ?_;rw [m_l23_told.eq_1] at hm;have hst := St.start col w0;refine go ?_;refine l_allocA (col := (col0 col)) #[(.int .i64 0), (.int .i64 0), (.int .i64 0), (.string (⟨#[]⟩))] 1 Tryz.zeroValue26 ?_;intro g_1 w_2 col_3 hg_4 hb_5;refine go ?_;refine lv (v := ve0) rfl rfl (r_move rfl) ?_;replace he0 := (he0.keep (Stay.start col w0)).gr hg_4;refine lV (.bool (!p0_err.isSome)) (r_eqlE he0 Tryz.underlying30 rfl) <| lnil ?_;replace hgl := (hgl.keep (Stay.start col w0)).gr hg_4;replace hst := hst.grow hg_4;refine wcb hm (fun hb hm => go ?_) fun hb hm => go ?_
 ·refine lV (.agg #[(.int .i64 0), (.int .i64 0), (.int .i64 0), (.string (⟨#[]⟩))]) (r_build (l := [_, _, _, _]) (qs := [(0, 1), (1, 1), (2, 1), (3, 1)]) Tryz.underlying26 Tryz.zeroValue26 ⟨rfl, Tryz.sizeOf24, rfl, Tryz.sizeOf3, rfl, Tryz.sizeOf3, rfl, Tryz.sizeOf9, trivial⟩ rfl) <| l_bsA hb_5 ?_;intro w_6 hk_7 hs_8 hb_9;refine go ?_;cases hm;replace hst := hst.kp hk_7 hs_8;exact ⟨rfl, _, rat hb_9.atN, _, rfl, hst.fin (cm [])⟩
 refine l_alloc (col := col_3) (v := (.pointer none)) 2 rfl Tryz.zeroValue57 ?_;intro g_10 w_11 col_12 hg_13 hb_14;replace hb_14 : Box 57 2 col_12 w_11 g_10 #[(.pointer none)] := hb_14;refine lnil <| wseq ?_;replace he0 := he0.gr hg_13;replace hgl := hgl.gr hg_13;replace hb_5 := hb_5.gr hg_13;replace hst := hst.grow hg_13;refine Wp.cutK [2, 1000000] (fun f w_15 => ∃ col_16 v_17 v_18 v_19 v_20, m_l23_told_J1 v_17 v_18 v_19 v_20 = some r ∧ St w0 (col0 col) col_16 w_15 ∧ Box 26 1 col_16 w_15 g_1 #[(.int .i64 v_17), (.int .i64 v_18), (.int .i64 v_19), (.string v_20)] ∧ Gl (.iface 146 (.agg #[.pointer (some ⟨4, 30, none⟩)])) col_16 w_15) ?_ ?_
 ·intro f w_15 hJ;obtain ⟨col_16, v_17, v_18, v_19, v_20, hm, hst, hb_5, hgl⟩ := hJ;rw [m_l23_told_J1.eq_1] at hm;refine go ?_;refine lV (.agg #[(.int .i64 0), (.int .i64 0), (.int .i64 0), (.string (⟨#[]⟩))]) (r_build (l := [_, _, _, _]) (qs := [(0, 1), (1, 1), (2, 1), (3, 1)]) Tryz.underlying26 Tryz.zeroValue26 ⟨rfl, Tryz.sizeOf24, rfl, Tryz.sizeOf3, rfl, Tryz.sizeOf3, rfl, Tryz.sizeOf9, trivial⟩ rfl) <| l_bsA hb_5 ?_;intro w_21 hk_22 hs_23 hb_24;refine go ?_;cases hm;replace hst := hst.kp hk_22 hs_23;exact ⟨rfl, _, rat hb_24.atN, _, rfl, hst.fin (cm [])⟩
 refine wseq ?_;refine Wp.cutK [2, 4, 1000000] (fun f w_47 => ∃ col_48 v_49 v_50 f_51, m_l23_told_J2 v_49 f_51 = some r ∧ St w0 (col0 col) col_48 w_47 ∧ Box 26 1 col_48 w_47 g_1 #[(.int .i64 0), (.int .i64 0), (.int .i64 0), (.string (⟨#[]⟩))] ∧ Rd (Rep.fptr 26 (Rep.pair (Rep.int .i64) (Rep.pair (Rep.int .i64) (Rep.pair (Rep.int .i64) Rep.str)))) col_48 w_47 [v_50] f_51 ∧ Box 57 2 col_48 w_47 g_10 #[v_50] ∧ Gl (.iface 146 (.agg #[.pointer (some ⟨4, 30, none⟩)])) col_48 w_47 ∧ [14].map f = [.bool v_49]) ?_ ?_
 ·intro f w_47 hJ;obtain ⟨col_48, v_49, v_50, f_51, hm, hst, hb_5, h_52, hb_14, hgl, hs⟩ := hJ;rw [m_l23_told_J2.eq_1] at hm;refine .lL [14] hs ?_;refine wcb hm (fun hb hm => go ?_) fun hb hm => ?_
  ·refine lv (v := v_50) rfl rfl (r_ld Tryz.isAgg57 rfl hb_14.at1) ?_;obtain ⟨f_53, hf_54, hm⟩ := bZ hm;rw [hf_54] at h_52;obtain ⟨b_55, _, rfl, hF_56, hr_57⟩ := h_52.pS;obtain ⟨_, _, rfl, hp_58, hp_59⟩ := rd_pair hr_57;obtain ⟨rfl, _⟩ := hp_58;obtain ⟨_, _, rfl, hp_60, hp_61⟩ := rd_pair hp_59;obtain ⟨rfl, _⟩ := hp_60;obtain ⟨_, _, rfl, hp_62, hp_63⟩ := rd_pair hp_61;obtain ⟨rfl, _⟩ := hp_62;obtain ⟨rfl, _⟩ := hp_63;replace hF_56 : FzB 26 col_48 w_47 b_55 [(.int .i64 f_53.1), (.int .i64 f_53.2.1), (.int .i64 f_53.2.2.1), (.string f_53.2.2.2)] := hF_56;refine lV (.pointer (some ⟨b_55, 0, none⟩)) (r_nilCheck rfl) <| lV _ (r_ldB Tryz.isAgg26 Tryz.sizeOf26 hF_56) <| l_bsA hb_5 ?_;intro w_64 hk_65 hs_66 hb_67;refine go ?_;cases hm;replace hst := hst.kp hk_65 hs_66;exact ⟨rfl, _, rat hb_67.atN, _, rfl, hst.fin (cm [])⟩
  refine wskip ?_;exact ⟨rfl, _, 0, 0, 0, _, hm, hst, hb_5, hgl⟩
 refine wregion <| lv (v := ve0) rfl rfl (r_move rfl) <| lV (.iface 59 (.pointer (some ⟨g_10, 0, none⟩))) (r_mkI Tryz.underlying59 rfl) ?_
 cases hx_69 : p0_err with
 | none =>
  rw [hx_69] at hm he0;replace hm := optC_none hm;obtain rfl := he0.eN;refine lc rfl rfl (r_call2 Tryz.call29 rfl rfl) (as_no _ _) ?_;rintro _ w_70 ⟨rfl, hg_71⟩;refine ⟨_, rfl, ?_⟩;replace hg_71 : Grow col_12 w_11 col_12 w_70 := .of_below hg_71;refine lMB rfl <| lP 11 rfl rfl <| lP 11 rfl rfl <| lV (.bool false) (r_pickF rfl rfl) <| lnil ?_;replace hgl := hgl.gr hg_71;replace hb_5 := hb_5.gr hg_71;replace hb_14 := hb_14.gr hg_71;replace hst := hst.grow hg_71;exact ⟨rfl, _, _, _, _, hm, hst, hb_5, rd_nilptr, hb_14, hgl, rfl⟩
 | some f_68 =>
  rw [hx_69] at hm he0;replace hm := optC_some hm;refine lc rfl rfl (r_call2 Tryz.call29 rfl rfl) (as_yes hgl he0 hb_14 (k := 0) rfl rfl) ?_;rintro _ w_72 ⟨col_73, b_78, rfl, hk_74, hs_75, hb_76, hP_77⟩;refine ⟨_, rfl, ?_⟩;replace hb_76 : Box 57 2 col_73 w_72 g_10 #[(.pointer (some ⟨b_78, 0, none⟩))] := hb_76;refine lMB rfl <| lG 11 rfl rfl <| lW hb_76.at1 <| lG 11 rfl rfl <| lV (.bool true) (r_neqP hP_77 Tryz.underlying57 rfl) <| lV (.bool true) (r_pickT rfl rfl) <| lnil ?_;replace hgl := hgl.kp hk_74;replace hb_5 := hb_5.kp hk_74;replace hst := hst.kp hk_74 hs_75;exact ⟨rfl, _, _, _, _, hm, hst, hb_5, hP_77, hb_76, hgl, rfl⟩
def m_r23_samePairs_L1 (N : Nat) (p0_a : (List (ByteArray × ByteArray))) (p1_b : (List (ByteArray × ByteArray))) : Nat → Int → Option Bool
  | 0, _ => none
  | n_1 + 1, i_4 => if (decide (i_4 < (p0_a.length : Int))) = true then ((at? p0_a i_4).bind fun e_5 => (at? p1_b i_4).bind fun e_11 => if (!(decide (e_5.1 = e_11.1) && decide (e_5.2 = e_11.2))) = true then (some false) else ((m_r23_samePairs_L1 N p0_a p1_b n_1) (IntKind.i64.wrap (i_4 + 1)))) else (some true)
termination_by structural x => x
def m_r23_samePairs (N : Nat) (p0_a : (List (ByteArray × ByteArray))) (p1_b : (List (ByteArray × ByteArray))) : Option Bool :=
  if (!decide ((p0_a.length : Int) = (p1_b.length : Int))) = true then (some false) else (m_r23_samePairs_L1 N p0_a p1_b N 0)
theorem c_r23_samePairs {N cap0 cap1 : Nat} {a0 a1 : Option Addr} {col : Col} {w0 : World} {p0_a p1_b : (List (ByteArray × ByteArray))} {r : Bool} (hm : m_r23_samePairs N p0_a p1_b = some r) (h0 : Sl (Rep.pair Rep.str Rep.str) col w0 a0 cap0 p0_a) (h1 : Sl (Rep.pair Rep.str Rep.str) col w0 a1 cap1 p1_b) :
    Calls Tryz.prog 85 #[(.slice a0 p0_a.length cap0), (.slice a1 p1_b.length cap1)] w0 (fun e w' => e = .returned ((.bool r)) ∧ Below w0.heap.size w0 w') := by
 refine calls_of1 4 (m := 26) Tryz.func85 rfl rfl rfl rfl rfl ?_;rw [m_r23_samePairs.eq_1] at hm;have hst := St.start col w0;refine go ?_;replace h0 := h0.keep (Stay.start col w0);replace h1 := h1.keep (Stay.start col w0);refine wcb hm (fun hb hm => go ?_) fun hb hm => go ?_
 ·cases hm;exact ⟨rfl, rfl, hst.below⟩
 refine wloopK [0, 1, 1000000] (fun n f w_2 => ∃ col_3 i_4 n_1, n_1 = n ∧ m_r23_samePairs_L1 N p0_a p1_b n_1 i_4 = some r ∧ St w0 (col0 col) col_3 w_2 ∧ [5].map f = [.int .i64 i_4]) N ⟨_, 0, _, rfl, hm, hst, rfl⟩ ?_;clear hm; intro n f w_2 hI;obtain ⟨col_3, i_4, n_1, hn, hm, hst, hs⟩ := hI;subst hn;refine .lL [5] hs ?_
 cases n_1 with
 | zero => rw [m_r23_samePairs_L1.eq_1] at hm; cases hm
 | succ n_1 =>
  rw [m_r23_samePairs_L1.eq_2] at hm;refine go ?_;refine wcb hm (fun hb hm => go ?_) fun hb hm => go ?_
  ·refine wquiet (col := col_3) (by kernel_rfl) (by kernel_rfl) <| go ?_;obtain ⟨e_5, hj_6, hm⟩ := bZ hm;refine qI hj_6 ((h0.ks hst).addr hj_6) ?_;obtain ⟨_, hr_7, hA_8⟩ := (h0.ks hst).atN hj_6;obtain ⟨_, _, rfl, hp_9, hp_10⟩ := rd_pair hr_7;obtain ⟨rfl, _⟩ := hp_9;obtain ⟨rfl, _⟩ := hp_10;refine qv (v := (.agg #[(.string e_5.1), (.string e_5.2)])) rfl (fun _ hC => r_ldN Tryz.isAgg88 Tryz.sizeOf88 rfl rfl (hA_8.gr (hC.bl col_3))) ?_;refine go ?_;obtain ⟨e_11, hj_12, hm⟩ := bZ hm;refine qI hj_12 ((h1.ks hst).addr hj_12) ?_;obtain ⟨_, hr_13, hA_14⟩ := (h1.ks hst).atN hj_12;obtain ⟨_, _, rfl, hp_15, hp_16⟩ := rd_pair hr_13;obtain ⟨rfl, _⟩ := hp_15;obtain ⟨rfl, _⟩ := hp_16;refine qv (v := (.agg #[(.string e_11.1), (.string e_11.2)])) rfl (fun _ hC => r_ldN Tryz.isAgg88 Tryz.sizeOf88 rfl rfl (hA_14.gr (hC.bl col_3))) ?_;refine qv (v := (.bool (!(decide (e_5.1 = e_11.1) && decide (e_5.2 = e_11.2))))) rfl (fun _ hC => r_neqA rfl rfl (by decide +kernel) (eq_struct2 Tryz.underlying88 (by decide +kernel) (by decide) (by decide) (r_part Tryz.isAgg9 rfl) (r_part Tryz.isAgg9 rfl) (r_part Tryz.isAgg9 rfl) (r_part Tryz.isAgg9 rfl) (peq_str e_5.1 e_11.1 Tryz.underlying9) (peq_str e_5.2 e_11.2 Tryz.underlying9))) ?_;refine qnil ?_;intro w_17 hC;replace hC := hC.bl col_3;replace hst := hst.grow hC;refine wcb hm (fun hb hm => go ?_) fun hb hm => go ?_
   ·cases hm;exact ⟨rfl, rfl, hst.below⟩
   exact ⟨n_1, by omega, rfl, ⟨_, _, _, rfl, hm, hst, rfl⟩⟩
  cases hm;exact ⟨rfl, rfl, hst.below⟩
def m_r23_Same_J2 (v_49 : Bool) : Option Bool :=
  some v_49
def m_r23_Same_L1 (N : Nat) (p0_a : (Int × (List (ByteArray × ByteArray)) × (List (ByteArray × ByteArray)) × Int × (List ByteArray) × (Bool × Bool))) (p1_b : (Int × (List (ByteArray × ByteArray)) × (List (ByteArray × ByteArray)) × Int × (List ByteArray) × (Bool × Bool))) : Nat → Int → Option Bool
  | 0, _ => none
  | n_20 + 1, i_23 => if (decide (i_23 < (p0_a.2.2.2.2.1.length : Int))) = true then ((at? p0_a.2.2.2.2.1 i_23).bind fun e_24 => (at? p1_b.2.2.2.2.1 i_23).bind fun e_26 => if (!decide (e_24 = e_26)) = true then (some false) else ((m_r23_Same_L1 N p0_a p1_b n_20) (IntKind.i64.wrap (i_23 + 1)))) else ((m_r23_samePairs N p0_a.2.1 p1_b.2.1).bind fun r_50 => if r_50 = true then ((m_r23_samePairs N p0_a.2.2.1 p1_b.2.2.1).bind fun r_55 => m_r23_Same_J2 r_55) else (m_r23_Same_J2 false))
termination_by structural x => x
def m_r23_Same_J1 (N : Nat) (p0_a : (Int × (List (ByteArray × ByteArray)) × (List (ByteArray × ByteArray)) × Int × (List ByteArray) × (Bool × Bool))) (p1_b : (Int × (List (ByteArray × ByteArray)) × (List (ByteArray × ByteArray)) × Int × (List ByteArray) × (Bool × Bool))) (v_19 : Bool) : Option Bool :=
  if v_19 = true then (some false) else (m_r23_Same_L1 N p0_a p1_b N 0)
def m_r23_Same (N : Nat) (p0_a : (Int × (List (ByteArray × ByteArray)) × (List (ByteArray × ByteArray)) × Int × (List ByteArray) × (Bool × Bool))) (p1_b : (Int × (List (ByteArray × ByteArray)) × (List (ByteArray × ByteArray)) × Int × (List ByteArray) × (Bool × Bool))) : Option Bool :=
  if (!decide (p0_a.1 = p1_b.1)) = true then (m_r23_Same_J1 N p0_a p1_b true) else (if (!decide (p0_a.2.2.2.1 = p1_b.2.2.2.1)) = true then (m_r23_Same_J1 N p0_a p1_b true) else (if (!(decide (p0_a.2.2.2.2.2.1 = p1_b.2.2.2.2.2.1) && decide (p0_a.2.2.2.2.2.2 = p1_b.2.2.2.2.2.2))) = true then (m_r23_Same_J1 N p0_a p1_b true) else (m_r23_Same_J1 N p0_a p1_b (!decide ((p0_a.2.2.2.2.1.length : Int) = (p1_b.2.2.2.2.1.length : Int))))))
theorem c_r23_Same {N cap0_0 cap0_2 cap0_4 cap1_0 cap1_2 cap1_4 : Nat} {a0_0 a0_2 a0_4 a1_0 a1_2 a1_4 : Option Addr} {col : Col} {w0 : World} {p0_a p1_b : (Int × (List (ByteArray × ByteArray)) × (List (ByteArray × ByteArray)) × Int × (List ByteArray) × (Bool × Bool))} {r : Bool} (hm : m_r23_Same N p0_a p1_b = some r) (h0_0 : Sl (Rep.pair Rep.str Rep.str) col w0 a0_0 cap0_0 p0_a.2.1) (h0_2 : Sl (Rep.pair Rep.str Rep.str) col w0 a0_2 cap0_2 p0_a.2.2.1) (h0_4 : Sl Rep.str col w0 a0_4 cap0_4 p0_a.2.2.2.2.1) (h1_0 : Sl (Rep.pair Rep.str Rep.str) col w0 a1_0 cap1_0 p1_b.2.1) (h1_2 : Sl (Rep.pair Rep.str Rep.str) col w0 a1_2 cap1_2 p1_b.2.2.1) (h1_4 : Sl Rep.str col w0 a1_4 cap1_4 p1_b.2.2.2.2.1) :
    Calls Tryz.prog 59 #[(.agg #[(.int .i8 p0_a.1), (.slice a0_0 p0_a.2.1.length cap0_0), (.slice a0_2 p0_a.2.2.1.length cap0_2), (.int .i8 p0_a.2.2.2.1), (.slice a0_4 p0_a.2.2.2.2.1.length cap0_4), (.bool p0_a.2.2.2.2.2.1), (.bool p0_a.2.2.2.2.2.2)]), (.agg #[(.int .i8 p1_b.1), (.slice a1_0 p1_b.2.1.length cap1_0), (.slice a1_2 p1_b.2.2.1.length cap1_2), (.int .i8 p1_b.2.2.2.1), (.slice a1_4 p1_b.2.2.2.2.1.length cap1_4), (.bool p1_b.2.2.2.2.2.1), (.bool p1_b.2.2.2.2.2.2)])] w0 (fun e w' => e = .returned ((.bool r)) ∧ Below w0.heap.size w0 w') := by
 refine calls_of1 4 (m := 64) Tryz.func59 rfl rfl rfl rfl rfl ?_;rw [m_r23_Same.eq_1] at hm;have hst := St.start col w0;refine go ?_;refine l_boxA (col := (col0 col)) 1 rfl ?_;intro g_1 w_2 col_3 hg_4 hb_5;refine l_boxA (col := col_3) 2 rfl ?_;intro g_6 w_7 col_8 hg_9 hb_10;refine lAB rfl <| lnil <| wseq <| wseq ?_;replace h0_0 := h0_0.keep (Stay.start col w0);replace h0_2 := h0_2.keep (Stay.start col w0);replace h0_4 := h0_4.keep (Stay.start col w0);replace h1_0 := h1_0.keep (Stay.start col w0);replace h1_2 := h1_2.keep (Stay.start col w0);replace h1_4 := h1_4.keep (Stay.start col w0);replace hst := (hst.grow hg_4).grow hg_9;replace hb_5 := hb_5.gr hg_9;refine Wp.cutK [2, 3, 1000000] (fun f w_17 => ∃ col_18 v_19, m_r23_Same_J1 N p0_a p1_b v_19 = some r ∧ St w0 (col0 col) col_18 w_17 ∧ Box 81 1 col_18 w_17 g_1 #[(.int .i8 p0_a.1), (.slice a0_0 p0_a.2.1.length cap0_0), (.slice a0_2 p0_a.2.2.1.length cap0_2), (.int .i8 p0_a.2.2.2.1), (.slice a0_4 p0_a.2.2.2.2.1.length cap0_4), (.bool p0_a.2.2.2.2.2.1), (.bool p0_a.2.2.2.2.2.2)] ∧ Box 81 2 col_18 w_17 g_6 #[(.int .i8 p1_b.1), (.slice a1_0 p1_b.2.1.length cap1_0), (.slice a1_2 p1_b.2.2.1.length cap1_2), (.int .i8 p1_b.2.2.2.1), (.slice a1_4 p1_b.2.2.2.2.1.length cap1_4), (.bool p1_b.2.2.2.2.2.1), (.bool p1_b.2.2.2.2.2.2)] ∧ [33].map f = [.bool v_19]) ?_ ?_
 ·intro f w_17 hJ;obtain ⟨col_18, v_19, hm, hst, hb_5, hb_10, hs⟩ := hJ;rw [m_r23_Same_J1.eq_1] at hm;refine .lL [33] hs ?_;refine wcb hm (fun hb hm => go ?_) fun hb hm => go ?_
  ·cases hm;exact ⟨rfl, rfl, hst.below⟩
  refine wloopK [2, 3, 1000000] (fun n f w_21 => ∃ col_22 i_23 n_20, n_20 = n ∧ m_r23_Same_L1 N p0_a p1_b n_20 i_23 = some r ∧ St w0 (col0 col) col_22 w_21 ∧ Box 81 1 col_22 w_21 g_1 #[(.int .i8 p0_a.1), (.slice a0_0 p0_a.2.1.length cap0_0), (.slice a0_2 p0_a.2.2.1.length cap0_2), (.int .i8 p0_a.2.2.2.1), (.slice a0_4 p0_a.2.2.2.2.1.length cap0_4), (.bool p0_a.2.2.2.2.2.1), (.bool p0_a.2.2.2.2.2.2)] ∧ Box 81 2 col_22 w_21 g_6 #[(.int .i8 p1_b.1), (.slice a1_0 p1_b.2.1.length cap1_0), (.slice a1_2 p1_b.2.2.1.length cap1_2), (.int .i8 p1_b.2.2.2.1), (.slice a1_4 p1_b.2.2.2.2.1.length cap1_4), (.bool p1_b.2.2.2.2.2.1), (.bool p1_b.2.2.2.2.2.2)] ∧ [5].map f = [.int .i64 i_23]) N ⟨_, 0, _, rfl, hm, hst, hb_5, hb_10, rfl⟩ ?_;clear hm; intro n f w_21 hI;obtain ⟨col_22, i_23, n_20, hn, hm, hst, hb_5, hb_10, hs⟩ := hI;subst hn;refine .lL [5] hs ?_
  cases n_20 with
  | zero => rw [m_r23_Same_L1.eq_1] at hm; cases hm
  | succ n_20 =>
   rw [m_r23_Same_L1.eq_2] at hm;refine go ?_;refine lFLb hb_5 ?_;refine go ?_;refine wcb hm (fun hb hm => go ?_) fun hb hm => ?_
   ·refine wquiet (col := col_22) (by kernel_rfl) (by kernel_rfl) <| qF ⟨_, _, rfl⟩ ?_;refine qW (fun _ hC => ((hb_5.atN).nth (q := 4) rfl).gr (hC.bl col_22)) ?_;refine go ?_;obtain ⟨e_24, hj_25, hm⟩ := bZ hm;refine qI hj_25 ((h0_4.ks hst).addr hj_25) <| qW (fun _ hC => ((h0_4.ks hst).gr (hC.bl col_22)).atStr hj_25) ?_;refine qF ⟨_, _, rfl⟩ ?_;refine qW (fun _ hC => ((hb_10.atN).nth (q := 4) rfl).gr (hC.bl col_22)) ?_;refine go ?_;obtain ⟨e_26, hj_27, hm⟩ := bZ hm;refine qI hj_27 ((h1_4.ks hst).addr hj_27) <| qW (fun _ hC => ((h1_4.ks hst).gr (hC.bl col_22)).atStr hj_27) ?_;refine go ?_;refine qnil ?_;intro w_28 hC;replace hC := hC.bl col_22;replace hb_5 := hb_5.gr hC;replace hb_10 := hb_10.gr hC;replace hst := hst.grow hC;refine wcb hm (fun hb hm => go ?_) fun hb hm => go ?_
    ·cases hm;exact ⟨rfl, rfl, hst.below⟩
    exact ⟨n_20, by omega, rfl, ⟨_, _, _, rfl, hm, hst, hb_5, hb_10, rfl⟩⟩
   refine wexit (inB_hit ?_);refine wseq ?_;refine Wp.cutK [1000000] (fun f w_47 => ∃ col_48 v_49, m_r23_Same_J2 v_49 = some r ∧ St w0 (col0 col) col_48 w_47 ∧ [4].map f = [.bool v_49]) ?_ ?_
   ·intro f w_47 hJ;obtain ⟨col_48, v_49, hm, hst, hs⟩ := hJ;rw [m_r23_Same_J2.eq_1] at hm;refine .lL [4] hs <| wret ?_;cases hm;exact ⟨rfl, rfl, hst.below⟩
   refine wregion <| lFLb hb_5 <| lFLb hb_10 ?_;obtain ⟨r_50, hr_51, hm⟩ := bZ hm;refine lcA (c_r23_samePairs hr_51 (h0_0.ks hst) (h1_0.ks hst)) ?_;rintro _ w_52 ⟨rfl, hg_53⟩;refine ⟨_, rfl, ?_⟩;replace hg_53 : Grow col_22 w_21 col_22 w_52 := .of_below hg_53;refine lMB rfl ?_;replace hb_5 := hb_5.gr hg_53;replace hb_10 := hb_10.gr hg_53;replace hst := hst.grow hg_53;refine bcb hm (fun hg_54 hm => go ?_) fun hg_54 hm => go ?_
   ·refine lFa ⟨_, _, rfl⟩ ?_;refine go ?_;refine lW ((hb_5.atN).nth (q := 2) rfl) <| go ?_;refine lFa ⟨_, _, rfl⟩ ?_;refine go ?_;refine lW ((hb_10.atN).nth (q := 2) rfl) <| go ?_;obtain ⟨r_55, hr_56, hm⟩ := bZ hm;refine lcA (c_r23_samePairs hr_56 (h0_2.ks hst) (h1_2.ks hst)) ?_;rintro _ w_57 ⟨rfl, hg_58⟩;refine ⟨_, rfl, ?_⟩;replace hg_58 : Grow col_22 w_52 col_22 w_57 := .of_below hg_58;refine lV (.bool r_55) (r_pickT (congrArg Value.bool hg_54) rfl) <| go ?_;replace hst := hst.grow hg_58;exact ⟨rfl, _, _, hm, hst, rfl⟩
   refine lV (.bool false) (r_pickF (congrArg Value.bool hg_54) rfl) <| go ?_;exact ⟨rfl, _, _, hm, hst, rfl⟩
 refine wregion <| lFLb hb_5 <| lFLb hb_10 ?_;refine go ?_;refine bcb hm (fun hg_59 hm => go ?_) fun hg_59 hm => go ?_
 ·refine lV (.bool true) (r_pickT (congrArg Value.bool hg_59) rfl) <| lMB rfl <| lP 18 rfl rfl <| lP 18 rfl rfl <| lP 18 rfl rfl <| lP 18 rfl rfl <| lP 18 rfl rfl <| lV (.bool true) (r_pickT rfl rfl) <| lMB rfl <| lP 25 rfl rfl <| lP 25 rfl rfl <| lP 25 rfl rfl <| lP 25 rfl rfl <| lP 25 rfl rfl <| lP 25 rfl rfl <| lP 25 rfl rfl <| lV (.bool true) (r_pickT rfl rfl) <| lnil ?_;exact ⟨rfl, _, _, hm, hst, hb_5, hb_10, rfl⟩
 refine lFa ⟨_, _, rfl⟩ ?_;refine go ?_;refine lW ((hb_5.atN).nth (q := 3) rfl) <| go ?_;refine lFa ⟨_, _, rfl⟩ ?_;refine go ?_;refine lW ((hb_10.atN).nth (q := 3) rfl) <| go ?_;refine lV (.bool (!decide (p0_a.2.2.2.1 = p1_b.2.2.2.1))) (r_pickF (congrArg Value.bool hg_59) rfl) <| lMB rfl ?_;refine bcb hm (fun hg_60 hm => go ?_) fun hg_60 hm => go ?_
 ·refine lV (.bool true) (r_pickT (congrArg Value.bool hg_60) rfl) <| lMB rfl <| lP 25 rfl rfl <| lP 25 rfl rfl <| lP 25 rfl rfl <| lP 25 rfl rfl <| lP 25 rfl rfl <| lP 25 rfl rfl <| lP 25 rfl rfl <| lV (.bool true) (r_pickT rfl rfl) <| lnil ?_;exact ⟨rfl, _, _, hm, hst, hb_5, hb_10, rfl⟩
 refine lFa ⟨_, _, rfl⟩ ?_;refine go ?_;refine lV (.agg #[(.bool p0_a.2.2.2.2.2.1), (.bool p0_a.2.2.2.2.2.2)]) (r_ldN Tryz.isAgg79 Tryz.sizeOf79 rfl rfl ((hb_5.atN).part 5 2 _ rfl)) <| go ?_;refine lFa ⟨_, _, rfl⟩ ?_;refine go ?_;refine lV (.agg #[(.bool p1_b.2.2.2.2.2.1), (.bool p1_b.2.2.2.2.2.2)]) (r_ldN Tryz.isAgg79 Tryz.sizeOf79 rfl rfl ((hb_10.atN).part 5 2 _ rfl)) <| go ?_;refine lV (.bool (!(decide (p0_a.2.2.2.2.2.1 = p1_b.2.2.2.2.2.1) && decide (p0_a.2.2.2.2.2.2 = p1_b.2.2.2.2.2.2)))) (r_neqA rfl rfl (by decide +kernel) (eq_array2 Tryz.underlying79 Tryz.sizeOf4 (r_part Tryz.isAgg4 rfl) (r_part Tryz.isAgg4 rfl) (r_part Tryz.isAgg4 rfl) (r_part Tryz.isAgg4 rfl) (peq_bool p0_a.2.2.2.2.2.1 p1_b.2.2.2.2.2.1 Tryz.underlying4) (peq_bool p0_a.2.2.2.2.2.2 p1_b.2.2.2.2.2.2 Tryz.underlying4))) <| lV (.bool (!(decide (p0_a.2.2.2.2.2.1 = p1_b.2.2.2.2.2.1) && decide (p0_a.2.2.2.2.2.2 = p1_b.2.2.2.2.2.2)))) (r_pickF (congrArg Value.bool hg_60) rfl) <| lMB rfl ?_;refine bcb hm (fun hg_61 hm => go ?_) fun hg_61 hm => go ?_
 ·refine lV (.bool true) (r_pickT (congrArg Value.bool hg_61) rfl) <| lnil ?_;exact ⟨rfl, _, _, hm, hst, hb_5, hb_10, rfl⟩
 refine lFa ⟨_, _, rfl⟩ ?_;refine go ?_;refine lW ((hb_5.atN).nth (q := 4) rfl) <| go ?_;refine lFa ⟨_, _, rfl⟩ ?_;refine go ?_;refine lW ((hb_10.atN).nth (q := 4) rfl) <| go ?_;refine lV (.bool (!decide ((p0_a.2.2.2.2.1.length : Int) = (p1_b.2.2.2.2.1.length : Int)))) (r_pickF (congrArg Value.bool hg_61) rfl) <| lnil ?_;exact ⟨rfl, _, _, hm, hst, hb_5, hb_10, rfl⟩
def m_r23_SameAll_L1 (N : Nat) (p0_a : (List (Int × (List (ByteArray × ByteArray)) × (List (ByteArray × ByteArray)) × Int × (List ByteArray) × (Bool × Bool)))) (p1_b : (List (Int × (List (ByteArray × ByteArray)) × (List (ByteArray × ByteArray)) × Int × (List ByteArray) × (Bool × Bool)))) : Nat → Int → Option Bool
  | 0, _ => none
  | n_1 + 1, i_4 => if (decide (i_4 < (p0_a.length : Int))) = true then ((at? p0_a i_4).bind fun e_5 => (at? p1_b i_4).bind fun e_30 => (m_r23_Same N (e_5.1, e_5.2.1, e_5.2.2.1, e_5.2.2.2.1, e_5.2.2.2.2.1, (e_5.2.2.2.2.2.1, e_5.2.2.2.2.2.2)) (e_30.1, e_30.2.1, e_30.2.2.1, e_30.2.2.2.1, e_30.2.2.2.2.1, (e_30.2.2.2.2.2.1, e_30.2.2.2.2.2.2))).bind fun r_55 => if (!r_55) = true then (some false) else ((m_r23_SameAll_L1 N p0_a p1_b n_1) (IntKind.i64.wrap (i_4 + 1)))) else (some true)
termination_by structural x => x
def m_r23_SameAll (N : Nat) (p0_a : (List (Int × (List (ByteArray × ByteArray)) × (List (ByteArray × ByteArray)) × Int × (List ByteArray) × (Bool × Bool)))) (p1_b : (List (Int × (List (ByteArray × ByteArray)) × (List (ByteArray × ByteArray)) × Int × (List ByteArray) × (Bool × Bool)))) : Option Bool :=
  if (!decide ((p0_a.length : Int) = (p1_b.length : Int))) = true then (some false) else (m_r23_SameAll_L1 N p0_a p1_b N 0)
theorem c_r23_SameAll {N cap0 cap1 : Nat} {a0 a1 : Option Addr} {col : Col} {w0 : World} {p0_a p1_b : (List (Int × (List (ByteArray × ByteArray)) × (List (ByteArray × ByteArray)) × Int × (List ByteArray) × (Bool × Bool)))} {r : Bool} (hm : m_r23_SameAll N p0_a p1_b = some r) (h0 : Sl (Rep.pair (Rep.int .i8) (Rep.pair (Rep.slice (Rep.pair Rep.str Rep.str)) (Rep.pair (Rep.slice (Rep.pair Rep.str Rep.str)) (Rep.pair (Rep.int .i8) (Rep.pair (Rep.slice Rep.str) (Rep.pair Rep.bool Rep.bool)))))) col w0 a0 cap0 p0_a) (h1 : Sl (Rep.pair (Rep.int .i8) (Rep.pair (Rep.slice (Rep.pair Rep.str Rep.str)) (Rep.pair (Rep.slice (Rep.pair Rep.str Rep.str)) (Rep.pair (Rep.int .i8) (Rep.pair (Rep.slice Rep.str) (Rep.pair Rep.bool Rep.bool)))))) col w0 a1 cap1 p1_b) :
    Calls Tryz.prog 27 #[(.slice a0 p0_a.length cap0), (.slice a1 p1_b.length cap1)] w0 (fun e w' => e = .returned ((.bool r)) ∧ Below w0.heap.size w0 w') := by
 refine calls_of1 4 (m := 29) Tryz.func27 rfl rfl rfl rfl rfl ?_;rw [m_r23_SameAll.eq_1] at hm;have hst := St.start col w0;refine go ?_;replace h0 := h0.keep (Stay.start col w0);replace h1 := h1.keep (Stay.start col w0);refine wcb hm (fun hb hm => go ?_) fun hb hm => go ?_
 ·cases hm;exact ⟨rfl, rfl, hst.below⟩
 refine wloopK [0, 1, 1000000] (fun n f w_2 => ∃ col_3 i_4 n_1, n_1 = n ∧ m_r23_SameAll_L1 N p0_a p1_b n_1 i_4 = some r ∧ St w0 (col0 col) col_3 w_2 ∧ [5].map f = [.int .i64 i_4]) N ⟨_, 0, _, rfl, hm, hst, rfl⟩ ?_;clear hm; intro n f w_2 hI;obtain ⟨col_3, i_4, n_1, hn, hm, hst, hs⟩ := hI;subst hn;refine .lL [5] hs ?_
 cases n_1 with
 | zero => rw [m_r23_SameAll_L1.eq_1] at hm; cases hm
 | succ n_1 =>
  rw [m_r23_SameAll_L1.eq_2] at hm;refine go ?_;refine wcb hm (fun hb hm => go ?_) fun hb hm => go ?_
  ·refine wquiet (col := col_3) (by kernel_rfl) (by kernel_rfl) <| go ?_;obtain ⟨e_5, hj_6, hm⟩ := bZ hm;refine qI hj_6 ((h0.ks hst).addr hj_6) ?_;obtain ⟨_, hr_7, hA_8⟩ := (h0.ks hst).atN hj_6;obtain ⟨_, _, rfl, hp_9, hp_10⟩ := rd_pair hr_7;obtain ⟨rfl, _⟩ := hp_9;obtain ⟨_, _, rfl, hp_11, hp_12⟩ := rd_pair hp_10;obtain ⟨⟨a_13, cap_14, rfl, h_15⟩, _⟩ := hp_11;obtain ⟨_, _, rfl, hp_16, hp_17⟩ := rd_pair hp_12;obtain ⟨⟨a_18, cap_19, rfl, h_20⟩, _⟩ := hp_16;obtain ⟨_, _, rfl, hp_21, hp_22⟩ := rd_pair hp_17;obtain ⟨rfl, _⟩ := hp_21;obtain ⟨_, _, rfl, hp_23, hp_24⟩ := rd_pair hp_22;obtain ⟨⟨a_25, cap_26, rfl, h_27⟩, _⟩ := hp_23;obtain ⟨_, _, rfl, hp_28, hp_29⟩ := rd_pair hp_24;obtain ⟨rfl, _⟩ := hp_28;obtain ⟨rfl, _⟩ := hp_29;refine qv (v := (.agg #[(.int .i8 e_5.1), (.slice a_13 e_5.2.1.length cap_14), (.slice a_18 e_5.2.2.1.length cap_19), (.int .i8 e_5.2.2.2.1), (.slice a_25 e_5.2.2.2.2.1.length cap_26), (.bool e_5.2.2.2.2.2.1), (.bool e_5.2.2.2.2.2.2)])) rfl (fun _ hC => r_ldN Tryz.isAgg81 Tryz.sizeOf81 rfl rfl (hA_8.gr (hC.bl col_3))) ?_;refine go ?_;obtain ⟨e_30, hj_31, hm⟩ := bZ hm;refine qI hj_31 ((h1.ks hst).addr hj_31) ?_;obtain ⟨_, hr_32, hA_33⟩ := (h1.ks hst).atN hj_31;obtain ⟨_, _, rfl, hp_34, hp_35⟩ := rd_pair hr_32;obtain ⟨rfl, _⟩ := hp_34;obtain ⟨_, _, rfl, hp_36, hp_37⟩ := rd_pair hp_35;obtain ⟨⟨a_38, cap_39, rfl, h_40⟩, _⟩ := hp_36;obtain ⟨_, _, rfl, hp_41, hp_42⟩ := rd_pair hp_37;obtain ⟨⟨a_43, cap_44, rfl, h_45⟩, _⟩ := hp_41;obtain ⟨_, _, rfl, hp_46, hp_47⟩ := rd_pair hp_42;obtain ⟨rfl, _⟩ := hp_46;obtain ⟨_, _, rfl, hp_48, hp_49⟩ := rd_pair hp_47;obtain ⟨⟨a_50, cap_51, rfl, h_52⟩, _⟩ := hp_48;obtain ⟨_, _, rfl, hp_53, hp_54⟩ := rd_pair hp_49;obtain ⟨rfl, _⟩ := hp_53;obtain ⟨rfl, _⟩ := hp_54;refine qv (v := (.agg #[(.int .i8 e_30.1), (.slice a_38 e_30.2.1.length cap_39), (.slice a_43 e_30.2.2.1.length cap_44), (.int .i8 e_30.2.2.2.1), (.slice a_50 e_30.2.2.2.2.1.length cap_51), (.bool e_30.2.2.2.2.2.1), (.bool e_30.2.2.2.2.2.2)])) rfl (fun _ hC => r_ldN Tryz.isAgg81 Tryz.sizeOf81 rfl rfl (hA_33.gr (hC.bl col_3))) ?_;obtain ⟨r_55, hr_56, hm⟩ := bZ hm;refine qc (v := (.bool r_55)) rfl (fun _ hC => ⟨_, _, r_call2 Tryz.call59 rfl rfl, (c_r23_Same hr_56 (h_15.gr (hC.bl col_3)) (h_20.gr (hC.bl col_3)) (h_27.gr (hC.bl col_3)) (h_40.gr (hC.bl col_3)) (h_45.gr (hC.bl col_3)) (h_52.gr (hC.bl col_3)) :).mono fun _ _ h => ⟨h.1, hC.trans (.of_below h.2)⟩⟩) ?_;refine go ?_;refine qnil ?_;intro w_57 hC;replace hC := hC.bl col_3;refine go ?_;replace hst := hst.grow hC;refine wcb hm (fun hb hm => go ?_) fun hb hm => go ?_
   ·cases hm;exact ⟨rfl, rfl, hst.below⟩
   exact ⟨n_1, by omega, rfl, ⟨_, _, _, rfl, hm, hst, rfl⟩⟩
  cases hm;exact ⟨rfl, rfl, hst.below⟩
def m_l23_mark (p0_n : Int) : Option ByteArray :=
  chk ((⟨#[109, 97, 114, 107, 32]⟩ : ByteArray).size + (bstr [IntKind.u8.wrap p0_n, IntKind.u8.wrap (IntKind.i64.wrap (Int.tdiv p0_n 256))]).size ≤ maxLen) (some ((⟨#[109, 97, 114, 107, 32]⟩ : ByteArray) ++ (bstr [IntKind.u8.wrap p0_n, IntKind.u8.wrap (IntKind.i64.wrap (Int.tdiv p0_n 256))])))
theorem c_l23_mark {col : Col} {w0 : World} {p0_n : Int} {r : ByteArray} (hm : m_l23_mark p0_n = some r)  :
    Calls Tryz.prog 60 #[(.int .i64 p0_n)] w0 (fun e w' => e = .returned ((.string r)) ∧ Below w0.heap.size w0 w') := by
 refine calls_of1 2 (m := 11) Tryz.func60 rfl rfl rfl rfl rfl ?_;rw [m_l23_mark.eq_1] at hm;have hst := St.start col w0;refine go ?_;refine lV (.int .i64 (IntKind.i64.wrap (Int.tdiv p0_n 256))) (r_quo p0_n 256 rfl rfl (by decide)) <| go ?_;refine l_litI (col := (col0 col)) [IntKind.u8.wrap p0_n, IntKind.u8.wrap (IntKind.i64.wrap (Int.tdiv p0_n 256))] 1 ?_;intro a_1 w_2 col_3 hg_4 h_5;refine lV (.string (bstr [IntKind.u8.wrap p0_n, IntKind.u8.wrap (IntKind.i64.wrap (Int.tdiv p0_n 256))])) (r_bytesStr (c := 1) (c2 := 1) (h_5.srcN NB.int) Tryz.underlying144 Tryz.underlying5 Tryz.underlying9 rfl) ?_;obtain ⟨hb_6, hm⟩ := chk_some hm;refine lV (.string ((⟨#[109, 97, 114, 107, 32]⟩ : ByteArray) ++ (bstr [IntKind.u8.wrap p0_n, IntKind.u8.wrap (IntKind.i64.wrap (Int.tdiv p0_n 256))]))) (r_addS Tryz.underlying9 rfl rfl hb_6) <| go ?_;cases hm;replace hst := hst.grow hg_4;exact ⟨rfl, rfl, hst.below⟩
theorem el9_28 : ElemOk Tryz.prog 9 1 16 := ⟨Tryz.t9, _, rfl, rfl, rfl, rfl, rfl⟩
theorem el88_28 : ElemOk Tryz.prog 88 2 32 := ⟨Tryz.t88, _, rfl, rfl, rfl, rfl, rfl⟩
def m_l23_spoilt_L4 (N : Nat) (i_7 : Int) (kk_L1 : ((List (Int × (List (ByteArray × ByteArray)) × (List (ByteArray × ByteArray)) × Int × (List ByteArray) × (Bool × Bool))) → Int → Option (Bool × (List (Int × (List (ByteArray × ByteArray)) × (List (ByteArray × ByteArray)) × Int × (List ByteArray) × (Bool × Bool)))))) : Nat → (List (Int × (List (ByteArray × ByteArray)) × (List (ByteArray × ByteArray)) × Int × (List ByteArray) × (Bool × Bool))) → Int → Option (Bool × (List (Int × (List (ByteArray × ByteArray)) × (List (ByteArray × ByteArray)) × Int × (List ByteArray) × (Bool × Bool))))
  | 0, _, _ => none
  | n_171 + 1, l_174, k_177 => (at? l_174 i_7).bind fun e_179 => if (decide (k_177 < (e_179.2.2.2.2.1.length : Int))) = true then ((m_l23_mark (IntKind.i64.wrap ((IntKind.i64.wrap (3 * i_7)) + 2))).bind fun r_234 => (at? e_179.2.2.2.2.1 k_177).bind fun e_238 => (some (e_179.2.2.2.2.1.set (Int.toNat k_177) r_234)).bind fun xs_246 => (m_l23_spoilt_L4 N i_7 kk_L1 n_171) (l_174.set (Int.toNat i_7) (e_179.1, e_179.2.1, e_179.2.2.1, e_179.2.2.2.1, xs_246, (e_179.2.2.2.2.2.1, e_179.2.2.2.2.2.2))) (IntKind.i64.wrap (k_177 + 1))) else (kk_L1 l_174 (IntKind.i64.wrap (i_7 + 1)))
termination_by structural x => x
def m_l23_spoilt_L3 (N : Nat) (i_7 : Int) (kk_L1 : ((List (Int × (List (ByteArray × ByteArray)) × (List (ByteArray × ByteArray)) × Int × (List ByteArray) × (Bool × Bool))) → Int → Option (Bool × (List (Int × (List (ByteArray × ByteArray)) × (List (ByteArray × ByteArray)) × Int × (List ByteArray) × (Bool × Bool)))))) : Nat → (List (Int × (List (ByteArray × ByteArray)) × (List (ByteArray × ByteArray)) × Int × (List ByteArray) × (Bool × Bool))) → Int → Option (Bool × (List (Int × (List (ByteArray × ByteArray)) × (List (ByteArray × ByteArray)) × Int × (List ByteArray) × (Bool × Bool))))
  | 0, _, _ => none
  | n_90 + 1, l_93, k_96 => (at? l_93 i_7).bind fun e_98 => if (decide (k_96 < (e_98.2.2.1.length : Int))) = true then ((m_l23_mark (IntKind.i64.wrap ((IntKind.i64.wrap (3 * i_7)) + 1))).bind fun r_153 => (at? e_98.2.2.1 k_96).bind fun e_157 => (some (e_98.2.2.1.set (Int.toNat k_96) (r_153, ⟨#[]⟩))).bind fun xs_165 => (m_l23_spoilt_L3 N i_7 kk_L1 n_90) (l_93.set (Int.toNat i_7) (e_98.1, e_98.2.1, xs_165, e_98.2.2.2.1, e_98.2.2.2.2.1, (e_98.2.2.2.2.2.1, e_98.2.2.2.2.2.2))) (IntKind.i64.wrap (k_96 + 1))) else (m_l23_spoilt_L4 N i_7 kk_L1 N l_93 0)
termination_by structural x => x
def m_l23_spoilt_L2 (N : Nat) (i_7 : Int) (kk_L1 : ((List (Int × (List (ByteArray × ByteArray)) × (List (ByteArray × ByteArray)) × Int × (List ByteArray) × (Bool × Bool))) → Int → Option (Bool × (List (Int × (List (ByteArray × ByteArray)) × (List (ByteArray × ByteArray)) × Int × (List ByteArray) × (Bool × Bool)))))) : Nat → (List (Int × (List (ByteArray × ByteArray)) × (List (ByteArray × ByteArray)) × Int × (List ByteArray) × (Bool × Bool))) → Int → Option (Bool × (List (Int × (List (ByteArray × ByteArray)) × (List (ByteArray × ByteArray)) × Int × (List ByteArray) × (Bool × Bool))))
  | 0, _, _ => none
  | n_9 + 1, l_12, k_15 => (at? l_12 i_7).bind fun e_17 => if (decide (k_15 < (e_17.2.1.length : Int))) = true then ((m_l23_mark (IntKind.i64.wrap (3 * i_7))).bind fun r_72 => (at? e_17.2.1 k_15).bind fun e_76 => (some (e_17.2.1.set (Int.toNat k_15) (r_72, ⟨#[]⟩))).bind fun xs_84 => (m_l23_spoilt_L2 N i_7 kk_L1 n_9) (l_12.set (Int.toNat i_7) (e_17.1, xs_84, e_17.2.2.1, e_17.2.2.2.1, e_17.2.2.2.2.1, (e_17.2.2.2.2.2.1, e_17.2.2.2.2.2.2))) (IntKind.i64.wrap (k_15 + 1))) else (m_l23_spoilt_L3 N i_7 kk_L1 N l_12 0)
termination_by structural x => x
def m_l23_spoilt_L8 (N : Nat) (i_255 : Int) (kk_L5 : (Int → Option (Bool × (List (Int × (List (ByteArray × ByteArray)) × (List (ByteArray × ByteArray)) × Int × (List ByteArray) × (Bool × Bool)))))) : Nat → (List ByteArray) → Int → Option (Bool × (List (Int × (List (ByteArray × ByteArray)) × (List (ByteArray × ByteArray)) × Int × (List ByteArray) × (Bool × Bool))))
  | 0, _, _ => none
  | n_331 + 1, l_337, k_339 => if (decide (k_339 < 20)) = true then (chk ((l_337.length + ([⟨#[37]⟩] : List ByteArray).length) * 16 ≤ 140737488355328 ∧ l_337.length + ([⟨#[37]⟩] : List ByteArray).length ≤ maxLen) ((m_l23_spoilt_L8 N i_255 kk_L5 n_331) (l_337 ++ ([⟨#[37]⟩] : List ByteArray)) (IntKind.i64.wrap (k_339 + 1)))) else (kk_L5 (IntKind.i64.wrap (i_255 + 1)))
termination_by structural x => x
def m_l23_spoilt_L7 (N : Nat) (i_255 : Int) (kk_L5 : (Int → Option (Bool × (List (Int × (List (ByteArray × ByteArray)) × (List (ByteArray × ByteArray)) × Int × (List ByteArray) × (Bool × Bool)))))) (e_256 : (Int × (List (ByteArray × ByteArray)) × (List (ByteArray × ByteArray)) × Int × (List ByteArray) × (Bool × Bool))) : Nat → (List (ByteArray × ByteArray)) → Int → Option (Bool × (List (Int × (List (ByteArray × ByteArray)) × (List (ByteArray × ByteArray)) × Int × (List ByteArray) × (Bool × Bool))))
  | 0, _, _ => none
  | n_309 + 1, l_315, k_317 => if (decide (k_317 < 20)) = true then (chk ((l_315.length + ([(⟨#[37]⟩, ⟨#[]⟩)] : List (ByteArray × ByteArray)).length) * 32 ≤ 140737488355328 ∧ l_315.length + ([(⟨#[37]⟩, ⟨#[]⟩)] : List (ByteArray × ByteArray)).length ≤ maxLen) ((m_l23_spoilt_L7 N i_255 kk_L5 e_256 n_309) (l_315 ++ ([(⟨#[37]⟩, ⟨#[]⟩)] : List (ByteArray × ByteArray))) (IntKind.i64.wrap (k_317 + 1)))) else (m_l23_spoilt_L8 N i_255 kk_L5 N e_256.2.2.2.2.1 0)
termination_by structural x => x
def m_l23_spoilt_L6 (N : Nat) (i_255 : Int) (kk_L5 : (Int → Option (Bool × (List (Int × (List (ByteArray × ByteArray)) × (List (ByteArray × ByteArray)) × Int × (List ByteArray) × (Bool × Bool)))))) (e_256 : (Int × (List (ByteArray × ByteArray)) × (List (ByteArray × ByteArray)) × Int × (List ByteArray) × (Bool × Bool))) : Nat → (List (ByteArray × ByteArray)) → Int → Option (Bool × (List (Int × (List (ByteArray × ByteArray)) × (List (ByteArray × ByteArray)) × Int × (List ByteArray) × (Bool × Bool))))
  | 0, _, _ => none
  | n_287 + 1, l_293, k_295 => if (decide (k_295 < 20)) = true then (chk ((l_293.length + ([(⟨#[37]⟩, ⟨#[]⟩)] : List (ByteArray × ByteArray)).length) * 32 ≤ 140737488355328 ∧ l_293.length + ([(⟨#[37]⟩, ⟨#[]⟩)] : List (ByteArray × ByteArray)).length ≤ maxLen) ((m_l23_spoilt_L6 N i_255 kk_L5 e_256 n_287) (l_293 ++ ([(⟨#[37]⟩, ⟨#[]⟩)] : List (ByteArray × ByteArray))) (IntKind.i64.wrap (k_295 + 1)))) else (m_l23_spoilt_L7 N i_255 kk_L5 e_256 N e_256.2.2.1 0)
termination_by structural x => x
def m_l23_spoilt_L12 (N : Nat) (l_4 : List (Int × (List (ByteArray × ByteArray)) × (List (ByteArray × ByteArray)) × Int × (List ByteArray) × (Bool × Bool))) (i_359 : Int) (kk_L9 : (Int → Option (Bool × (List (Int × (List (ByteArray × ByteArray)) × (List (ByteArray × ByteArray)) × Int × (List ByteArray) × (Bool × Bool)))))) : Nat → Int → Option (Bool × (List (Int × (List (ByteArray × ByteArray)) × (List (ByteArray × ByteArray)) × Int × (List ByteArray) × (Bool × Bool))))
  | 0, _ => none
  | n_482 + 1, k_485 => (at? l_4 i_359).bind fun e_486 => if (decide (k_485 < (e_486.2.2.2.2.1.length : Int))) = true then ((at? e_486.2.2.2.2.1 k_485).bind fun e_534 => (m_l23_mark (IntKind.i64.wrap ((IntKind.i64.wrap (3 * i_359)) + 2))).bind fun r_536 => if (!decide (e_534 = r_536)) = true then (some (false, l_4)) else ((m_l23_spoilt_L12 N l_4 i_359 kk_L9 n_482) (IntKind.i64.wrap (k_485 + 1)))) else (kk_L9 (IntKind.i64.wrap (i_359 + 1)))
termination_by structural x => x
def m_l23_spoilt_L11 (N : Nat) (l_4 : List (Int × (List (ByteArray × ByteArray)) × (List (ByteArray × ByteArray)) × Int × (List ByteArray) × (Bool × Bool))) (i_359 : Int) (kk_L9 : (Int → Option (Bool × (List (Int × (List (ByteArray × ByteArray)) × (List (ByteArray × ByteArray)) × Int × (List ByteArray) × (Bool × Bool)))))) : Nat → Int → Option (Bool × (List (Int × (List (ByteArray × ByteArray)) × (List (ByteArray × ByteArray)) × Int × (List ByteArray) × (Bool × Bool))))
  | 0, _ => none
  | n_421 + 1, k_424 => (at? l_4 i_359).bind fun e_425 => if (decide (k_424 < (e_425.2.2.1.length : Int))) = true then ((at? e_425.2.2.1 k_424).bind fun e_473 => (m_l23_mark (IntKind.i64.wrap ((IntKind.i64.wrap (3 * i_359)) + 1))).bind fun r_479 => if (!decide (e_473.1 = r_479)) = true then (some (false, l_4)) else ((m_l23_spoilt_L11 N l_4 i_359 kk_L9 n_421) (IntKind.i64.wrap (k_424 + 1)))) else (m_l23_spoilt_L12 N l_4 i_359 kk_L9 N 0)
termination_by structural x => x
def m_l23_spoilt_L10 (N : Nat) (l_4 : List (Int × (List (ByteArray × ByteArray)) × (List (ByteArray × ByteArray)) × Int × (List ByteArray) × (Bool × Bool))) (i_359 : Int) (kk_L9 : (Int → Option (Bool × (List (Int × (List (ByteArray × ByteArray)) × (List (ByteArray × ByteArray)) × Int × (List ByteArray) × (Bool × Bool)))))) : Nat → Int → Option (Bool × (List (Int × (List (ByteArray × ByteArray)) × (List (ByteArray × ByteArray)) × Int × (List ByteArray) × (Bool × Bool))))
  | 0, _ => none
  | n_360 + 1, k_363 => (at? l_4 i_359).bind fun e_364 => if (decide (k_363 < (e_364.2.1.length : Int))) = true then ((at? e_364.2.1 k_363).bind fun e_412 => (m_l23_mark (IntKind.i64.wrap (3 * i_359))).bind fun r_418 => if (!decide (e_412.1 = r_418)) = true then (some (false, l_4)) else ((m_l23_spoilt_L10 N l_4 i_359 kk_L9 n_360) (IntKind.i64.wrap (k_363 + 1)))) else (m_l23_spoilt_L11 N l_4 i_359 kk_L9 N 0)
termination_by structural x => x
def m_l23_spoilt_L13 (N : Nat)  : Nat → (List (Int × (List (ByteArray × ByteArray)) × (List (ByteArray × ByteArray)) × Int × (List ByteArray) × (Bool × Bool))) → Int → Option (Bool × (List (Int × (List (ByteArray × ByteArray)) × (List (ByteArray × ByteArray)) × Int × (List ByteArray) × (Bool × Bool))))
  | 0, _, _ => none
  | n_539 + 1, l_542, i_545 => if (decide (i_545 < (l_542.length : Int))) = true then ((at? l_542 i_545).bind fun e_547 => (some (l_542.set (Int.toNat i_545) (0, ([] : List (ByteArray × ByteArray)), ([] : List (ByteArray × ByteArray)), 0, ([] : List ByteArray), (false, false)))).bind fun xs_554 => (m_l23_spoilt_L13 N n_539) xs_554 (IntKind.i64.wrap (i_545 + 1))) else (some (true, l_542))
termination_by structural x => x
def m_l23_spoilt_L9 (N : Nat) (l_4 : List (Int × (List (ByteArray × ByteArray)) × (List (ByteArray × ByteArray)) × Int × (List ByteArray) × (Bool × Bool))) : Nat → Int → Option (Bool × (List (Int × (List (ByteArray × ByteArray)) × (List (ByteArray × ByteArray)) × Int × (List ByteArray) × (Bool × Bool))))
  | 0, _ => none
  | n_356 + 1, i_359 => if (decide (i_359 < (l_4.length : Int))) = true then (m_l23_spoilt_L10 N l_4 i_359 (m_l23_spoilt_L9 N l_4 n_356) N 0) else (m_l23_spoilt_L13 N N l_4 0)
termination_by structural x => x
def m_l23_spoilt_L5 (N : Nat) (l_4 : List (Int × (List (ByteArray × ByteArray)) × (List (ByteArray × ByteArray)) × Int × (List ByteArray) × (Bool × Bool))) : Nat → Int → Option (Bool × (List (Int × (List (ByteArray × ByteArray)) × (List (ByteArray × ByteArray)) × Int × (List ByteArray) × (Bool × Bool))))
  | 0, _ => none
  | n_252 + 1, i_255 => if (decide (i_255 < (l_4.length : Int))) = true then ((at? l_4 i_255).bind fun e_256 => m_l23_spoilt_L6 N i_255 (m_l23_spoilt_L5 N l_4 n_252) e_256 N e_256.2.1 0) else (m_l23_spoilt_L9 N l_4 N 0)
termination_by structural x => x
def m_l23_spoilt_L1 (N : Nat)  : Nat → (List (Int × (List (ByteArray × ByteArray)) × (List (ByteArray × ByteArray)) × Int × (List ByteArray) × (Bool × Bool))) → Int → Option (Bool × (List (Int × (List (ByteArray × ByteArray)) × (List (ByteArray × ByteArray)) × Int × (List ByteArray) × (Bool × Bool))))
  | 0, _, _ => none
  | n_1 + 1, l_4, i_7 => if (decide (i_7 < (l_4.length : Int))) = true then (m_l23_spoilt_L2 N i_7 (m_l23_spoilt_L1 N n_1) N l_4 0) else (m_l23_spoilt_L5 N l_4 N 0)
termination_by structural x => x
def m_l23_spoilt (N : Nat) (p0_l : (List (Int × (List (ByteArray × ByteArray)) × (List (ByteArray × ByteArray)) × Int × (List ByteArray) × (Bool × Bool)))) : Option (Bool × (List (Int × (List (ByteArray × ByteArray)) × (List (ByteArray × ByteArray)) × Int × (List ByteArray) × (Bool × Bool)))) :=
  m_l23_spoilt_L1 N N p0_l 0
theorem c_l23_spoilt {N cap0 : Nat} {a0 : Option Addr} {col : Col} {w0 : World} {p0_l : (List (Int × (List (ByteArray × ByteArray)) × (List (ByteArray × ByteArray)) × Int × (List ByteArray) × (Bool × Bool)))} {r : (Bool × (List (Int × (List (ByteArray × ByteArray)) × (List (ByteArray × ByteArray)) × Int × (List ByteArray) × (Bool × Bool))))} (qc0 : Nat) (hm : m_l23_spoilt N p0_l = some r) (hd : dstB [qc0] = true) (h0 : Own (Rep.pair (Rep.int .i8) (Rep.pair (Rep.row 88 (Rep.pair Rep.str Rep.str)) (Rep.pair (Rep.row 88 (Rep.pair Rep.str Rep.str)) (Rep.pair (Rep.int .i8) (Rep.pair (Rep.row 9 Rep.str) (Rep.pair Rep.bool Rep.bool)))))) 81 qc0 col w0 a0 cap0 p0_l) :
    Calls Tryz.prog 28 #[(.slice a0 p0_l.length cap0)] w0 (fun e w' => ∃ (col' : Col), e = .returned ((.bool r.1)) ∧ KeepP (pS [qc0]) col w0 col' w' ∧ Own (Rep.pair (Rep.int .i8) (Rep.pair (Rep.row 88 (Rep.pair Rep.str Rep.str)) (Rep.pair (Rep.row 88 (Rep.pair Rep.str Rep.str)) (Rep.pair (Rep.int .i8) (Rep.pair (Rep.row 9 Rep.str) (Rep.pair Rep.bool Rep.bool)))))) 81 qc0 col' w' a0 cap0 r.2 ∧ r.2.length = p0_l.length) := by
 refine calls_of1 2 (m := 219) Tryz.func28 rfl rfl rfl rfl rfl ?_;rw [m_l23_spoilt.eq_1] at hm;have hst := St.startL (l := [qc0]) rfl col w0;replace h0 := h0.startL (dst_nz hd 0 rfl) (dst_ix hd 0 rfl);refine go ?_;refine wloopK [1000000] (fun n f w_2 => ∃ col_3 l_4 i_7 n_1, n_1 = n ∧ m_l23_spoilt_L1 N n_1 l_4 i_7 = some r ∧ St w0 (colL [qc0] col) col_3 w_2 ∧ Own (Rep.pair (Rep.int .i8) (Rep.pair (Rep.row 88 (Rep.pair Rep.str Rep.str)) (Rep.pair (Rep.row 88 (Rep.pair Rep.str Rep.str)) (Rep.pair (Rep.int .i8) (Rep.pair (Rep.row 9 Rep.str) (Rep.pair Rep.bool Rep.bool)))))) 81 440 col_3 w_2 a0 cap0 l_4 ∧ l_4.length = p0_l.length ∧ l_4.length = p0_l.length ∧ [0, 3].map f = [.slice a0 l_4.length cap0, .int .i64 i_7]) N ⟨_, _, 0, _, rfl, hm, hst, h0, rfl, rfl, rfl⟩ ?_;clear hm; intro n f w_2 hI;obtain ⟨col_3, l_4, i_7, n_1, hn, hm, hst, h_5, hlen_6, hlen_8, hs⟩ := hI;subst hn;refine .lL [0, 3] hs ?_
 cases n_1 with
 | zero => rw [m_l23_spoilt_L1.eq_1] at hm; cases hm
 | succ n_1 =>
  rw [m_l23_spoilt_L1.eq_2] at hm;refine go ?_;refine wcb hm (fun hb hm => go ?_) fun hb hm => go ?_
  ·refine wloopK [3, 1000000] (fun n f w_10 => ∃ col_11 l_12 k_15 n_9, n_9 = n ∧ m_l23_spoilt_L2 N i_7 (m_l23_spoilt_L1 N n_1) n_9 l_12 k_15 = some r ∧ St w0 (colL [qc0] col) col_11 w_10 ∧ Own (Rep.pair (Rep.int .i8) (Rep.pair (Rep.row 88 (Rep.pair Rep.str Rep.str)) (Rep.pair (Rep.row 88 (Rep.pair Rep.str Rep.str)) (Rep.pair (Rep.int .i8) (Rep.pair (Rep.row 9 Rep.str) (Rep.pair Rep.bool Rep.bool)))))) 81 440 col_11 w_10 a0 cap0 l_12 ∧ l_12.length = p0_l.length ∧ l_12.length = p0_l.length ∧ [0, 4].map f = [.slice a0 l_12.length cap0, .int .i64 k_15]) N ⟨_, _, 0, _, rfl, hm, hst, h_5, hlen_6, hlen_8, rfl⟩ ?_;clear hm; intro n f w_10 hI;obtain ⟨col_11, l_12, k_15, n_9, hn, hm, hst, h_13, hlen_14, hlen_16, hs⟩ := hI;subst hn;refine .lL [0, 4] hs ?_
   cases n_9 with
   | zero => rw [m_l23_spoilt_L2.eq_1] at hm; cases hm
   | succ n_9 =>
    rw [m_l23_spoilt_L2.eq_2] at hm;refine go ?_;obtain ⟨e_17, hj_18, hm⟩ := bZ hm;refine lI hj_18 (h_13.addr hj_18) <| lFa (sptr_addr (h_13.addr hj_18)) ?_;obtain ⟨_, hr_19, hA_20⟩ := h_13.atN hj_18;obtain ⟨_, _, rfl, hp_21, hp_22⟩ := hr_19.parts;obtain rfl := hp_21.int;obtain ⟨_, _, rfl, hp_23, hp_24⟩ := hp_22.parts;obtain ⟨a_25, cap_26, rfl, h_27⟩ := hp_23.row;obtain ⟨_, _, rfl, hp_28, hp_29⟩ := hp_24.parts;obtain ⟨a_30, cap_31, rfl, h_32⟩ := hp_28.row;obtain ⟨_, _, rfl, hp_33, hp_34⟩ := hp_29.parts;obtain rfl := hp_33.int;obtain ⟨_, _, rfl, hp_35, hp_36⟩ := hp_34.parts;obtain ⟨a_37, cap_38, rfl, h_39⟩ := hp_35.row;obtain ⟨_, _, rfl, hp_40, hp_41⟩ := hp_36.parts;obtain rfl := hp_40.bool;obtain rfl := hp_41.bool;refine lW ((hA_20).nth (q := 1) rfl) <| go ?_;refine wcb hm (fun hb hm => go ?_) fun hb hm => go ?_
    ·refine wmix (col := col_11) [(0, 1), (1, 1), (2, 1), (3, 1), (4, 0), (5, 1), (6, 1), (7, 1), (8, 3), (9, 1), (10, 1), (11, 2)] (by kernel_rfl) (by kernel_rfl) <| xu rfl rfl (fun _ => r_mS rfl) ?_;refine xu rfl rfl (fun _ => r_mI rfl) ?_;refine xu rfl rfl (fun _ => r_idx Tryz.underlying50 Tryz.sizeOf81 rfl rfl (at?_some hj_18).1 (at?_some hj_18).2.1 (h_13.addr hj_18)) ?_;refine xF (sptr_addr (h_13.addr hj_18)) ?_;obtain ⟨_, col_45, hk_43, hH_44, hs_42⟩ := h_13.open_ 1 (by decide) hj_18;obtain ⟨_, _, rfl, hp_46, hp_47⟩ := hs_42.parts;obtain rfl := hp_46.int;obtain ⟨_, _, col_51, rfl, hk_50, hp_48, hp_49⟩ := hp_47.split 2 (by decide);obtain ⟨a_52, cap_53, rfl, h_54⟩ := hp_48.row;obtain ⟨_, _, col_58, rfl, hk_57, hp_55, hp_56⟩ := hp_49.split 3 (by decide);obtain ⟨a_59, cap_60, rfl, h_61⟩ := hp_55.row;obtain ⟨_, _, rfl, hp_62, hp_63⟩ := hp_56.parts;obtain rfl := hp_62.int;obtain ⟨_, _, rfl, hp_64, hp_65⟩ := hp_63.parts;obtain ⟨a_66, cap_67, rfl, h_68⟩ := hp_64.row;obtain ⟨_, _, rfl, hp_69, hp_70⟩ := hp_65.parts;obtain rfl := hp_69.bool;obtain rfl := hp_70.bool;replace hH_44 := (hH_44.kpp hk_50).kpp hk_57;replace hH_44 : Hole (Rep.pair (Rep.int .i8) (Rep.pair (Rep.row 88 (Rep.pair Rep.str Rep.str)) (Rep.pair (Rep.row 88 (Rep.pair Rep.str Rep.str)) (Rep.pair (Rep.int .i8) (Rep.pair (Rep.row 9 Rep.str) (Rep.pair Rep.bool Rep.bool)))))) 81 440 col_58 w_10 a0 cap0 l_12 (Int.toNat i_7) [(.int .i8 e_17.1), (.slice a_52 e_17.2.1.length cap_53), (.slice a_59 e_17.2.2.1.length cap_60), (.int .i8 e_17.2.2.2.1), (.slice a_66 e_17.2.2.2.2.1.length cap_67), (.bool e_17.2.2.2.2.2.1), (.bool e_17.2.2.2.2.2.2)] := hH_44;refine xW (fun _ hC => ((hH_44.atN).nth (q := 1) rfl).gr (hC.bl col_58)) ?_;refine xu rfl rfl (fun _ => r_mI rfl) ?_;refine xu rfl rfl (fun _ => r_mI rfl) ?_;refine xu rfl rfl (fun _ => r_mul _ _ rfl rfl) ?_;refine xe rfl rfl ?_;intro w_71 hC0;have hC := hC0.bl col_58;obtain ⟨r_72, hr_73, hm⟩ := bZ hm;refine lcA (c_l23_mark (col := col_58) hr_73) ?_;rintro _ w_74 ⟨rfl, hg_75⟩;refine ⟨_, rfl, ?_⟩;replace hg_75 : Grow col_58 w_71 col_58 w_74 := .of_below hg_75;refine lnil <| xk3 col_58 hC0 hg_75 <| xu (v := (.agg #[(.string r_72), (.string (⟨#[]⟩))])) rfl rfl (fun _ => r_build (l := [_, _]) (qs := [(0, 1), (1, 1)]) Tryz.underlying88 Tryz.zeroValue88 ⟨rfl, Tryz.sizeOf9, rfl, Tryz.sizeOf9, trivial⟩ rfl) ?_;obtain ⟨e_76, hj_77, hm⟩ := bZ hm;replace h_54 := ((h_54.kpp hk_57).gr hC).gr hg_75;refine xu rfl rfl (fun _ => r_idx Tryz.underlying78 Tryz.sizeOf88 rfl rfl (at?_some hj_77).1 (at?_some hj_77).2.1 (h_54.addr hj_77)) ?_;refine xe rfl rfl ?_;intro w_78 hC0;replace hst := ((((hst.kpp hk_43).kpp hk_50).kpp hk_57).grow hC).grow hg_75;replace hH_44 := (hH_44.gr hC).gr hg_75;replace h_61 := (h_61.gr hC).gr hg_75;replace h_68 := (h_68.gr hC).gr hg_75;have hC := hC0.bl col_58;obtain ⟨xs_84, hz_83, hm⟩ := bZ hm;have hz_83 : xs_84 = e_17.2.1.set (Int.toNat k_15) (r_72, ⟨#[]⟩) := (Option.some.inj hz_83).symm
     replace h_54 := h_54.gr hC;refine l_store (x1 := (r_72, ⟨#[]⟩)) (v := (.agg #[(.string r_72), (.string (⟨#[]⟩))])) h_54 hj_77 rfl Tryz.sizeOf88 (rd_pairI (rd_str r_72) (rd_str (⟨#[]⟩))) rfl rfl (by decide) ?_;intro w_79 hk_80 hs_81 h_82;rw [← hz_83] at h_82;replace hH_44 := (hH_44.gr hC).kp hk_80;replace hH_44 : Hole (Rep.pair (Rep.int .i8) (Rep.pair (Rep.row 88 (Rep.pair Rep.str Rep.str)) (Rep.pair (Rep.row 88 (Rep.pair Rep.str Rep.str)) (Rep.pair (Rep.int .i8) (Rep.pair (Rep.row 9 Rep.str) (Rep.pair Rep.bool Rep.bool)))))) 81 440 col_58 w_79 a0 cap0 l_12 (Int.toNat i_7) [(.int .i8 e_17.1), (.slice a_52 xs_84.length cap_53), (.slice a_59 e_17.2.2.1.length cap_60), (.int .i8 e_17.2.2.2.1), (.slice a_66 e_17.2.2.2.2.1.length cap_67), (.bool e_17.2.2.2.2.2.1), (.bool e_17.2.2.2.2.2.2)] := by rw [← (show e_17.2.1.length = xs_84.length by rw [hz_83, List.length_set])]; exact hH_44
     refine lnil <| xk col_58 ?_;replace h_61 := (h_61.gr hC).kp hk_80;replace h_68 := (h_68.gr hC).kp hk_80;have hx_85 := Has.join h_61.has (Has.joinL (rd_int .i8 e_17.2.2.2.1) (Has.joinR h_68.has (rd_pairI (rd_bool e_17.2.2.2.2.2.1) (rd_bool e_17.2.2.2.2.2.2)))) (by decide) (by decide);replace hH_44 := hH_44.recol 3 2 (by decide);replace h_82 := h_82.recol 3 2 (by decide);replace hst := (hst.grow hC).kp hk_80 hs_81;replace hst := hst.recol 3 2 (by decide) (by decide);have hx_86 := Has.join h_82.has hx_85 (by decide) (by decide);replace hH_44 := hH_44.recol 2 1 (by decide);replace hst := hst.recol 2 1 (by decide) (by decide);have h_87 := hH_44.close (Has.joinL (rd_int .i8 e_17.1) hx_86) (by decide) (by decide);have hlen_88 : (l_12.set (Int.toNat i_7) (e_17.1, xs_84, e_17.2.2.1, e_17.2.2.2.1, e_17.2.2.2.2.1, (e_17.2.2.2.2.2.1, e_17.2.2.2.2.2.2))).length = p0_l.length := by rw [List.length_set]; exact hlen_14
     replace hst := hst.recol 1 440 (by decide) (by decide);refine .ld (d := 0) (v := (.slice a0 ((l_12.set (Int.toNat i_7) (e_17.1, xs_84, e_17.2.2.1, e_17.2.2.2.1, e_17.2.2.2.2.1, (e_17.2.2.2.2.2.1, e_17.2.2.2.2.2.2))).length) cap0)) (congrArg (fun n => Value.slice a0 n cap0) (show l_12.length = (l_12.set (Int.toNat i_7) (e_17.1, xs_84, e_17.2.2.1, e_17.2.2.2.1, e_17.2.2.2.2.1, (e_17.2.2.2.2.2.1, e_17.2.2.2.2.2.2))).length by simp only [List.length_set])) ?_;refine xnil ?_;intro w_89 hC;replace hC := hC.bl (rcC 1 440 (rcC 2 1 (rcC 3 2 col_58)));refine go ?_;replace h_87 := h_87.gr hC;replace hst := hst.grow hC;exact ⟨n_9, by omega, rfl, ⟨_, _, _, _, rfl, hm, hst, h_87, hlen_88, hlen_88, rfl⟩⟩
    refine wloopK [3, 1000000] (fun n f w_91 => ∃ col_92 l_93 k_96 n_90, n_90 = n ∧ m_l23_spoilt_L3 N i_7 (m_l23_spoilt_L1 N n_1) n_90 l_93 k_96 = some r ∧ St w0 (colL [qc0] col) col_92 w_91 ∧ Own (Rep.pair (Rep.int .i8) (Rep.pair (Rep.row 88 (Rep.pair Rep.str Rep.str)) (Rep.pair (Rep.row 88 (Rep.pair Rep.str Rep.str)) (Rep.pair (Rep.int .i8) (Rep.pair (Rep.row 9 Rep.str) (Rep.pair Rep.bool Rep.bool)))))) 81 440 col_92 w_91 a0 cap0 l_93 ∧ l_93.length = p0_l.length ∧ l_93.length = p0_l.length ∧ [0, 5].map f = [.slice a0 l_93.length cap0, .int .i64 k_96]) N ⟨_, _, 0, _, rfl, hm, hst, h_13, hlen_14, hlen_16, rfl⟩ ?_;clear hm; intro n f w_91 hI;obtain ⟨col_92, l_93, k_96, n_90, hn, hm, hst, h_94, hlen_95, hlen_97, hs⟩ := hI;subst hn;refine .lL [0, 5] hs ?_
    cases n_90 with
    | zero => rw [m_l23_spoilt_L3.eq_1] at hm; cases hm
    | succ n_90 =>
     rw [m_l23_spoilt_L3.eq_2] at hm;refine go ?_;obtain ⟨e_98, hj_99, hm⟩ := bZ hm;refine lI hj_99 (h_94.addr hj_99) <| lFa (sptr_addr (h_94.addr hj_99)) ?_;obtain ⟨_, hr_100, hA_101⟩ := h_94.atN hj_99;obtain ⟨_, _, rfl, hp_102, hp_103⟩ := hr_100.parts;obtain rfl := hp_102.int;obtain ⟨_, _, rfl, hp_104, hp_105⟩ := hp_103.parts;obtain ⟨a_106, cap_107, rfl, h_108⟩ := hp_104.row;obtain ⟨_, _, rfl, hp_109, hp_110⟩ := hp_105.parts;obtain ⟨a_111, cap_112, rfl, h_113⟩ := hp_109.row;obtain ⟨_, _, rfl, hp_114, hp_115⟩ := hp_110.parts;obtain rfl := hp_114.int;obtain ⟨_, _, rfl, hp_116, hp_117⟩ := hp_115.parts;obtain ⟨a_118, cap_119, rfl, h_120⟩ := hp_116.row;obtain ⟨_, _, rfl, hp_121, hp_122⟩ := hp_117.parts;obtain rfl := hp_121.bool;obtain rfl := hp_122.bool;refine lW ((hA_101).nth (q := 2) rfl) <| go ?_;refine wcb hm (fun hb hm => go ?_) fun hb hm => go ?_
     ·refine wmix (col := col_92) [(0, 1), (1, 1), (2, 1), (3, 1), (4, 0), (5, 1), (6, 1), (7, 1), (8, 1), (9, 3), (10, 1), (11, 1), (12, 2)] (by kernel_rfl) (by kernel_rfl) <| xu rfl rfl (fun _ => r_mS rfl) ?_;refine xu rfl rfl (fun _ => r_mI rfl) ?_;refine xu rfl rfl (fun _ => r_idx Tryz.underlying50 Tryz.sizeOf81 rfl rfl (at?_some hj_99).1 (at?_some hj_99).2.1 (h_94.addr hj_99)) ?_;refine xF (sptr_addr (h_94.addr hj_99)) ?_;obtain ⟨_, col_126, hk_124, hH_125, hs_123⟩ := h_94.open_ 4 (by decide) hj_99;obtain ⟨_, _, rfl, hp_127, hp_128⟩ := hs_123.parts;obtain rfl := hp_127.int;obtain ⟨_, _, col_132, rfl, hk_131, hp_129, hp_130⟩ := hp_128.split 5 (by decide);obtain ⟨a_133, cap_134, rfl, h_135⟩ := hp_129.row;obtain ⟨_, _, col_139, rfl, hk_138, hp_136, hp_137⟩ := hp_130.split 6 (by decide);obtain ⟨a_140, cap_141, rfl, h_142⟩ := hp_136.row;obtain ⟨_, _, rfl, hp_143, hp_144⟩ := hp_137.parts;obtain rfl := hp_143.int;obtain ⟨_, _, rfl, hp_145, hp_146⟩ := hp_144.parts;obtain ⟨a_147, cap_148, rfl, h_149⟩ := hp_145.row;obtain ⟨_, _, rfl, hp_150, hp_151⟩ := hp_146.parts;obtain rfl := hp_150.bool;obtain rfl := hp_151.bool;replace hH_125 := (hH_125.kpp hk_131).kpp hk_138;replace hH_125 : Hole (Rep.pair (Rep.int .i8) (Rep.pair (Rep.row 88 (Rep.pair Rep.str Rep.str)) (Rep.pair (Rep.row 88 (Rep.pair Rep.str Rep.str)) (Rep.pair (Rep.int .i8) (Rep.pair (Rep.row 9 Rep.str) (Rep.pair Rep.bool Rep.bool)))))) 81 440 col_139 w_91 a0 cap0 l_93 (Int.toNat i_7) [(.int .i8 e_98.1), (.slice a_133 e_98.2.1.length cap_134), (.slice a_140 e_98.2.2.1.length cap_141), (.int .i8 e_98.2.2.2.1), (.slice a_147 e_98.2.2.2.2.1.length cap_148), (.bool e_98.2.2.2.2.2.1), (.bool e_98.2.2.2.2.2.2)] := hH_125;refine xW (fun _ hC => ((hH_125.atN).nth (q := 2) rfl).gr (hC.bl col_139)) ?_;refine xu rfl rfl (fun _ => r_mI rfl) ?_;refine xu rfl rfl (fun _ => r_mI rfl) ?_;refine xu rfl rfl (fun _ => r_mul _ _ rfl rfl) ?_;refine xu rfl rfl (fun _ => r_add _ _ rfl rfl) ?_;refine xe rfl rfl ?_;intro w_152 hC0;have hC := hC0.bl col_139;obtain ⟨r_153, hr_154, hm⟩ := bZ hm;refine lcA (c_l23_mark (col := col_139) hr_154) ?_;rintro _ w_155 ⟨rfl, hg_156⟩;refine ⟨_, rfl, ?_⟩;replace hg_156 : Grow col_139 w_152 col_139 w_155 := .of_below hg_156;refine lnil <| xk3 col_139 hC0 hg_156 <| xu (v := (.agg #[(.string r_153), (.string (⟨#[]⟩))])) rfl rfl (fun _ => r_build (l := [_, _]) (qs := [(0, 1), (1, 1)]) Tryz.underlying88 Tryz.zeroValue88 ⟨rfl, Tryz.sizeOf9, rfl, Tryz.sizeOf9, trivial⟩ rfl) ?_;obtain ⟨e_157, hj_158, hm⟩ := bZ hm;replace h_142 := (h_142.gr hC).gr hg_156;refine xu rfl rfl (fun _ => r_idx Tryz.underlying78 Tryz.sizeOf88 rfl rfl (at?_some hj_158).1 (at?_some hj_158).2.1 (h_142.addr hj_158)) ?_;refine xe rfl rfl ?_;intro w_159 hC0;replace hst := ((((hst.kpp hk_124).kpp hk_131).kpp hk_138).grow hC).grow hg_156;replace h_135 := ((h_135.kpp hk_138).gr hC).gr hg_156;replace hH_125 := (hH_125.gr hC).gr hg_156
      replace h_149 := (h_149.gr hC).gr hg_156;have hC := hC0.bl col_139;obtain ⟨xs_165, hz_164, hm⟩ := bZ hm;have hz_164 : xs_165 = e_98.2.2.1.set (Int.toNat k_96) (r_153, ⟨#[]⟩) := (Option.some.inj hz_164).symm;replace h_142 := h_142.gr hC;refine l_store (x1 := (r_153, ⟨#[]⟩)) (v := (.agg #[(.string r_153), (.string (⟨#[]⟩))])) h_142 hj_158 rfl Tryz.sizeOf88 (rd_pairI (rd_str r_153) (rd_str (⟨#[]⟩))) rfl rfl (by decide) ?_;intro w_160 hk_161 hs_162 h_163;rw [← hz_164] at h_163;replace hH_125 := (hH_125.gr hC).kp hk_161;replace hH_125 : Hole (Rep.pair (Rep.int .i8) (Rep.pair (Rep.row 88 (Rep.pair Rep.str Rep.str)) (Rep.pair (Rep.row 88 (Rep.pair Rep.str Rep.str)) (Rep.pair (Rep.int .i8) (Rep.pair (Rep.row 9 Rep.str) (Rep.pair Rep.bool Rep.bool)))))) 81 440 col_139 w_160 a0 cap0 l_93 (Int.toNat i_7) [(.int .i8 e_98.1), (.slice a_133 e_98.2.1.length cap_134), (.slice a_140 xs_165.length cap_141), (.int .i8 e_98.2.2.2.1), (.slice a_147 e_98.2.2.2.2.1.length cap_148), (.bool e_98.2.2.2.2.2.1), (.bool e_98.2.2.2.2.2.2)] := by rw [← (show e_98.2.2.1.length = xs_165.length by rw [hz_164, List.length_set])]; exact hH_125
      refine lnil <| xk col_139 ?_;replace h_149 := (h_149.gr hC).kp hk_161;have hx_166 := Has.join h_163.has (Has.joinL (rd_int .i8 e_98.2.2.2.1) (Has.joinR h_149.has (rd_pairI (rd_bool e_98.2.2.2.2.2.1) (rd_bool e_98.2.2.2.2.2.2)))) (by decide) (by decide);replace hH_125 := hH_125.recol 6 5 (by decide);replace h_135 := (h_135.gr hC).kp hk_161;replace h_135 := h_135.recol 6 5 (by decide);replace hst := (hst.grow hC).kp hk_161 hs_162;replace hst := hst.recol 6 5 (by decide) (by decide);have hx_167 := Has.join h_135.has hx_166 (by decide) (by decide);replace hH_125 := hH_125.recol 5 4 (by decide);replace hst := hst.recol 5 4 (by decide) (by decide);have h_168 := hH_125.close (Has.joinL (rd_int .i8 e_98.1) hx_167) (by decide) (by decide);have hlen_169 : (l_93.set (Int.toNat i_7) (e_98.1, e_98.2.1, xs_165, e_98.2.2.2.1, e_98.2.2.2.2.1, (e_98.2.2.2.2.2.1, e_98.2.2.2.2.2.2))).length = p0_l.length := by rw [List.length_set]; exact hlen_95
      replace hst := hst.recol 4 440 (by decide) (by decide);refine .ld (d := 0) (v := (.slice a0 ((l_93.set (Int.toNat i_7) (e_98.1, e_98.2.1, xs_165, e_98.2.2.2.1, e_98.2.2.2.2.1, (e_98.2.2.2.2.2.1, e_98.2.2.2.2.2.2))).length) cap0)) (congrArg (fun n => Value.slice a0 n cap0) (show l_93.length = (l_93.set (Int.toNat i_7) (e_98.1, e_98.2.1, xs_165, e_98.2.2.2.1, e_98.2.2.2.2.1, (e_98.2.2.2.2.2.1, e_98.2.2.2.2.2.2))).length by simp only [List.length_set])) ?_;refine xnil ?_;intro w_170 hC;replace hC := hC.bl (rcC 4 440 (rcC 5 4 (rcC 6 5 col_139)));refine go ?_;replace h_168 := h_168.gr hC;replace hst := hst.grow hC;exact ⟨n_90, by omega, rfl, ⟨_, _, _, _, rfl, hm, hst, h_168, hlen_169, hlen_169, rfl⟩⟩
     refine wloopK [3, 1000000] (fun n f w_172 => ∃ col_173 l_174 k_177 n_171, n_171 = n ∧ m_l23_spoilt_L4 N i_7 (m_l23_spoilt_L1 N n_1) n_171 l_174 k_177 = some r ∧ St w0 (colL [qc0] col) col_173 w_172 ∧ Own (Rep.pair (Rep.int .i8) (Rep.pair (Rep.row 88 (Rep.pair Rep.str Rep.str)) (Rep.pair (Rep.row 88 (Rep.pair Rep.str Rep.str)) (Rep.pair (Rep.int .i8) (Rep.pair (Rep.row 9 Rep.str) (Rep.pair Rep.bool Rep.bool)))))) 81 440 col_173 w_172 a0 cap0 l_174 ∧ l_174.length = p0_l.length ∧ l_174.length = p0_l.length ∧ [0, 6].map f = [.slice a0 l_174.length cap0, .int .i64 k_177]) N ⟨_, _, 0, _, rfl, hm, hst, h_94, hlen_95, hlen_97, rfl⟩ ?_;clear hm; intro n f w_172 hI;obtain ⟨col_173, l_174, k_177, n_171, hn, hm, hst, h_175, hlen_176, hlen_178, hs⟩ := hI;subst hn;refine .lL [0, 6] hs ?_
     cases n_171 with
     | zero => rw [m_l23_spoilt_L4.eq_1] at hm; cases hm
     | succ n_171 =>
      rw [m_l23_spoilt_L4.eq_2] at hm;refine go ?_;obtain ⟨e_179, hj_180, hm⟩ := bZ hm;refine lI hj_180 (h_175.addr hj_180) <| lFa (sptr_addr (h_175.addr hj_180)) ?_;obtain ⟨_, hr_181, hA_182⟩ := h_175.atN hj_180;obtain ⟨_, _, rfl, hp_183, hp_184⟩ := hr_181.parts;obtain rfl := hp_183.int;obtain ⟨_, _, rfl, hp_185, hp_186⟩ := hp_184.parts;obtain ⟨a_187, cap_188, rfl, h_189⟩ := hp_185.row;obtain ⟨_, _, rfl, hp_190, hp_191⟩ := hp_186.parts;obtain ⟨a_192, cap_193, rfl, h_194⟩ := hp_190.row;obtain ⟨_, _, rfl, hp_195, hp_196⟩ := hp_191.parts;obtain rfl := hp_195.int;obtain ⟨_, _, rfl, hp_197, hp_198⟩ := hp_196.parts;obtain ⟨a_199, cap_200, rfl, h_201⟩ := hp_197.row;obtain ⟨_, _, rfl, hp_202, hp_203⟩ := hp_198.parts;obtain rfl := hp_202.bool;obtain rfl := hp_203.bool;refine lW ((hA_182).nth (q := 4) rfl) <| go ?_;refine wcb hm (fun hb hm => go ?_) fun hb hm => go ?_
      ·refine wmix (col := col_173) [(0, 1), (1, 1), (2, 1), (3, 1), (4, 0), (5, 1), (6, 1), (7, 1), (8, 1), (9, 3), (10, 1), (11, 2)] (by kernel_rfl) (by kernel_rfl) <| xu rfl rfl (fun _ => r_mS rfl) ?_;refine xu rfl rfl (fun _ => r_mI rfl) ?_;refine xu rfl rfl (fun _ => r_idx Tryz.underlying50 Tryz.sizeOf81 rfl rfl (at?_some hj_180).1 (at?_some hj_180).2.1 (h_175.addr hj_180)) ?_;refine xF (sptr_addr (h_175.addr hj_180)) ?_;obtain ⟨_, col_207, hk_205, hH_206, hs_204⟩ := h_175.open_ 7 (by decide) hj_180;obtain ⟨_, _, rfl, hp_208, hp_209⟩ := hs_204.parts;obtain rfl := hp_208.int;obtain ⟨_, _, col_213, rfl, hk_212, hp_210, hp_211⟩ := hp_209.split 8 (by decide);obtain ⟨a_214, cap_215, rfl, h_216⟩ := hp_210.row;obtain ⟨_, _, col_220, rfl, hk_219, hp_217, hp_218⟩ := hp_211.split 9 (by decide);obtain ⟨a_221, cap_222, rfl, h_223⟩ := hp_217.row;obtain ⟨_, _, rfl, hp_224, hp_225⟩ := hp_218.parts;obtain rfl := hp_224.int;obtain ⟨_, _, rfl, hp_226, hp_227⟩ := hp_225.parts;obtain ⟨a_228, cap_229, rfl, h_230⟩ := hp_226.row;obtain ⟨_, _, rfl, hp_231, hp_232⟩ := hp_227.parts;obtain rfl := hp_231.bool;obtain rfl := hp_232.bool;replace hH_206 := (hH_206.kpp hk_212).kpp hk_219;replace hH_206 : Hole (Rep.pair (Rep.int .i8) (Rep.pair (Rep.row 88 (Rep.pair Rep.str Rep.str)) (Rep.pair (Rep.row 88 (Rep.pair Rep.str Rep.str)) (Rep.pair (Rep.int .i8) (Rep.pair (Rep.row 9 Rep.str) (Rep.pair Rep.bool Rep.bool)))))) 81 440 col_220 w_172 a0 cap0 l_174 (Int.toNat i_7) [(.int .i8 e_179.1), (.slice a_214 e_179.2.1.length cap_215), (.slice a_221 e_179.2.2.1.length cap_222), (.int .i8 e_179.2.2.2.1), (.slice a_228 e_179.2.2.2.2.1.length cap_229), (.bool e_179.2.2.2.2.2.1), (.bool e_179.2.2.2.2.2.2)] := hH_206;refine xW (fun _ hC => ((hH_206.atN).nth (q := 4) rfl).gr (hC.bl col_220)) ?_;refine xu rfl rfl (fun _ => r_mI rfl) ?_;refine xu rfl rfl (fun _ => r_mI rfl) ?_;refine xu rfl rfl (fun _ => r_mul _ _ rfl rfl) ?_;refine xu rfl rfl (fun _ => r_add _ _ rfl rfl) ?_;refine xe rfl rfl ?_;intro w_233 hC0;have hC := hC0.bl col_220;obtain ⟨r_234, hr_235, hm⟩ := bZ hm;refine lcA (c_l23_mark (col := col_220) hr_235) ?_;rintro _ w_236 ⟨rfl, hg_237⟩;refine ⟨_, rfl, ?_⟩;replace hg_237 : Grow col_220 w_233 col_220 w_236 := .of_below hg_237;refine lnil <| xk3 col_220 hC0 hg_237 ?_;obtain ⟨e_238, hj_239, hm⟩ := bZ hm;replace h_230 := (h_230.gr hC).gr hg_237;refine xu rfl rfl (fun _ => r_idx Tryz.underlying47 Tryz.sizeOf9 rfl rfl (at?_some hj_239).1 (at?_some hj_239).2.1 (h_230.addr hj_239)) ?_;refine xe rfl rfl ?_;intro w_240 hC0;replace hst := ((((hst.kpp hk_205).kpp hk_212).kpp hk_219).grow hC).grow hg_237;replace h_216 := ((h_216.kpp hk_219).gr hC).gr hg_237;replace hH_206 := (hH_206.gr hC).gr hg_237;replace h_223 := (h_223.gr hC).gr hg_237;have hC := hC0.bl col_220;obtain ⟨xs_246, hz_245, hm⟩ := bZ hm;have hz_245 : xs_246 = e_179.2.2.2.2.1.set (Int.toNat k_177) r_234 := (Option.some.inj hz_245).symm
       replace h_230 := h_230.gr hC;refine l_store (x1 := r_234) (v := (.string r_234)) h_230 hj_239 rfl Tryz.sizeOf9 (rd_str r_234) rfl rfl (by decide) ?_;intro w_241 hk_242 hs_243 h_244;rw [← hz_245] at h_244;replace hH_206 := (hH_206.gr hC).kp hk_242;replace hH_206 : Hole (Rep.pair (Rep.int .i8) (Rep.pair (Rep.row 88 (Rep.pair Rep.str Rep.str)) (Rep.pair (Rep.row 88 (Rep.pair Rep.str Rep.str)) (Rep.pair (Rep.int .i8) (Rep.pair (Rep.row 9 Rep.str) (Rep.pair Rep.bool Rep.bool)))))) 81 440 col_220 w_241 a0 cap0 l_174 (Int.toNat i_7) [(.int .i8 e_179.1), (.slice a_214 e_179.2.1.length cap_215), (.slice a_221 e_179.2.2.1.length cap_222), (.int .i8 e_179.2.2.2.1), (.slice a_228 xs_246.length cap_229), (.bool e_179.2.2.2.2.2.1), (.bool e_179.2.2.2.2.2.2)] := by rw [← (show e_179.2.2.2.2.1.length = xs_246.length by rw [hz_245, List.length_set])]; exact hH_206
       refine lnil <| xk col_220 ?_;replace h_223 := (h_223.gr hC).kp hk_242;have hx_247 := Has.join h_223.has (Has.joinL (rd_int .i8 e_179.2.2.2.1) (Has.joinR h_244.has (rd_pairI (rd_bool e_179.2.2.2.2.2.1) (rd_bool e_179.2.2.2.2.2.2)))) (by decide) (by decide);replace hH_206 := hH_206.recol 9 8 (by decide);replace h_216 := (h_216.gr hC).kp hk_242;replace h_216 := h_216.recol 9 8 (by decide);replace hst := (hst.grow hC).kp hk_242 hs_243;replace hst := hst.recol 9 8 (by decide) (by decide);have hx_248 := Has.join h_216.has hx_247 (by decide) (by decide);replace hH_206 := hH_206.recol 8 7 (by decide);replace hst := hst.recol 8 7 (by decide) (by decide);have h_249 := hH_206.close (Has.joinL (rd_int .i8 e_179.1) hx_248) (by decide) (by decide);have hlen_250 : (l_174.set (Int.toNat i_7) (e_179.1, e_179.2.1, e_179.2.2.1, e_179.2.2.2.1, xs_246, (e_179.2.2.2.2.2.1, e_179.2.2.2.2.2.2))).length = p0_l.length := by rw [List.length_set]; exact hlen_176
       replace hst := hst.recol 7 440 (by decide) (by decide);refine .ld (d := 0) (v := (.slice a0 ((l_174.set (Int.toNat i_7) (e_179.1, e_179.2.1, e_179.2.2.1, e_179.2.2.2.1, xs_246, (e_179.2.2.2.2.2.1, e_179.2.2.2.2.2.2))).length) cap0)) (congrArg (fun n => Value.slice a0 n cap0) (show l_174.length = (l_174.set (Int.toNat i_7) (e_179.1, e_179.2.1, e_179.2.2.1, e_179.2.2.2.1, xs_246, (e_179.2.2.2.2.2.1, e_179.2.2.2.2.2.2))).length by simp only [List.length_set])) ?_;refine xnil ?_;intro w_251 hC;replace hC := hC.bl (rcC 7 440 (rcC 8 7 (rcC 9 8 col_220)));refine go ?_;replace h_249 := h_249.gr hC;replace hst := hst.grow hC;exact ⟨n_171, by omega, rfl, ⟨_, _, _, _, rfl, hm, hst, h_249, hlen_250, hlen_250, rfl⟩⟩
      exact ⟨n_1, by omega, rfl, ⟨_, _, _, _, rfl, hm, hst, h_175, hlen_176, hlen_178, rfl⟩⟩
  refine wloopK [0, 1000000] (fun n f w_253 => ∃ col_254 i_255 n_252, n_252 = n ∧ m_l23_spoilt_L5 N l_4 n_252 i_255 = some r ∧ St w0 (colL [qc0] col) col_254 w_253 ∧ Own (Rep.pair (Rep.int .i8) (Rep.pair (Rep.row 88 (Rep.pair Rep.str Rep.str)) (Rep.pair (Rep.row 88 (Rep.pair Rep.str Rep.str)) (Rep.pair (Rep.int .i8) (Rep.pair (Rep.row 9 Rep.str) (Rep.pair Rep.bool Rep.bool)))))) 81 440 col_254 w_253 a0 cap0 l_4 ∧ [7].map f = [.int .i64 i_255]) N ⟨_, 0, _, rfl, hm, hst, h_5, rfl⟩ ?_;clear hm; intro n f w_253 hI;obtain ⟨col_254, i_255, n_252, hn, hm, hst, h_5, hs⟩ := hI;subst hn;refine .lL [7] hs ?_
  cases n_252 with
  | zero => rw [m_l23_spoilt_L5.eq_1] at hm; cases hm
  | succ n_252 =>
   rw [m_l23_spoilt_L5.eq_2] at hm;refine go ?_;refine wcb hm (fun hb hm => go ?_) fun hb hm => go ?_
   ·obtain ⟨e_256, hj_257, hm⟩ := bZ hm;refine lI hj_257 (h_5.addr hj_257) <| lFa (sptr_addr (h_5.addr hj_257)) ?_;obtain ⟨_, col_261, hk_259, hH_260, hs_258⟩ := h_5.open_ 10 (by decide) hj_257;obtain ⟨_, _, rfl, hp_262, hp_263⟩ := hs_258.parts;obtain rfl := hp_262.int;obtain ⟨_, _, col_267, rfl, hk_266, hp_264, hp_265⟩ := hp_263.split 11 (by decide);obtain ⟨a_268, cap_269, rfl, h_270⟩ := hp_264.row;obtain ⟨_, _, col_274, rfl, hk_273, hp_271, hp_272⟩ := hp_265.split 12 (by decide);obtain ⟨a_275, cap_276, rfl, h_277⟩ := hp_271.row;obtain ⟨_, _, rfl, hp_278, hp_279⟩ := hp_272.parts;obtain rfl := hp_278.int;obtain ⟨_, _, rfl, hp_280, hp_281⟩ := hp_279.parts;obtain ⟨a_282, cap_283, rfl, h_284⟩ := hp_280.row;obtain ⟨_, _, rfl, hp_285, hp_286⟩ := hp_281.parts;obtain rfl := hp_285.bool;obtain rfl := hp_286.bool;replace hH_260 := (hH_260.kpp hk_266).kpp hk_273;replace hH_260 : Hole (Rep.pair (Rep.int .i8) (Rep.pair (Rep.row 88 (Rep.pair Rep.str Rep.str)) (Rep.pair (Rep.row 88 (Rep.pair Rep.str Rep.str)) (Rep.pair (Rep.int .i8) (Rep.pair (Rep.row 9 Rep.str) (Rep.pair Rep.bool Rep.bool)))))) 81 440 col_274 w_253 a0 cap0 l_4 (Int.toNat i_255) [(.int .i8 e_256.1), (.slice a_268 e_256.2.1.length cap_269), (.slice a_275 e_256.2.2.1.length cap_276), (.int .i8 e_256.2.2.2.1), (.slice a_282 e_256.2.2.2.2.1.length cap_283), (.bool e_256.2.2.2.2.2.1), (.bool e_256.2.2.2.2.2.2)] := hH_260;refine lW ((hH_260.atN).nth (q := 1) rfl) <| go ?_;refine lI hj_257 (hH_260.addr) <| lFa (sptr_addr (hH_260.addr)) ?_;refine lW ((hH_260.atN).nth (q := 2) rfl) <| go ?_;refine lI hj_257 (hH_260.addr) <| lFa (sptr_addr (hH_260.addr)) ?_;refine lW ((hH_260.atN).nth (q := 4) rfl) <| go ?_;replace h_270 := h_270.kpp hk_273;have hE_288 := h_270.ex;replace hst := ((hst.kpp hk_259).kpp hk_266).kpp hk_273;refine wloopK [0, 10, 7, 9, 1000000] (fun n f w_289 => ∃ col_290 a_291 cap_292 l_293 k_295 n_287, n_287 = n ∧ m_l23_spoilt_L6 N i_255 (m_l23_spoilt_L5 N l_4 n_252) e_256 n_287 l_293 k_295 = some r ∧ St w0 (colL [qc0] col) col_290 w_289 ∧ Ex (Rep.pair Rep.str Rep.str) 88 10 col_290 w_289 a_268 cap_269 e_256.2.1 a_291 cap_292 l_293 ∧ Own (Rep.pair Rep.str Rep.str) 88 11 col_290 w_289 a_275 cap_276 e_256.2.2.1 ∧ Own Rep.str 9 12 col_290 w_289 a_282 cap_283 e_256.2.2.2.2.1 ∧ Hole (Rep.pair (Rep.int .i8) (Rep.pair (Rep.row 88 (Rep.pair Rep.str Rep.str)) (Rep.pair (Rep.row 88 (Rep.pair Rep.str Rep.str)) (Rep.pair (Rep.int .i8) (Rep.pair (Rep.row 9 Rep.str) (Rep.pair Rep.bool Rep.bool)))))) 81 440 col_290 w_289 a0 cap0 l_4 (Int.toNat i_255) [(.int .i8 e_256.1), (.slice a_268 e_256.2.1.length cap_269), (.slice a_275 e_256.2.2.1.length cap_276), (.int .i8 e_256.2.2.2.1), (.slice a_282 e_256.2.2.2.2.1.length cap_283), (.bool e_256.2.2.2.2.2.1), (.bool e_256.2.2.2.2.2.2)] ∧ [11, 8].map f = [.int .i64 k_295, .slice a_291 l_293.length cap_292]) N ⟨_, _, _, _, 0, _, rfl, hm, hst, hE_288, h_277, h_284, hH_260, rfl⟩ ?_;clear hm; intro n f w_289 hI
    obtain ⟨col_290, a_291, cap_292, l_293, k_295, n_287, hn, hm, hst, hE_294, h_277, h_284, hH_260, hs⟩ := hI;subst hn;refine .lL [11, 8] hs ?_
    cases n_287 with
    | zero => rw [m_l23_spoilt_L6.eq_1] at hm; cases hm
    | succ n_287 =>
     rw [m_l23_spoilt_L6.eq_2] at hm;refine go ?_;refine wcb hm (fun hb hm => go ?_) fun hb hm => go ?_
     ·refine lV (.agg #[(.string (⟨#[37]⟩)), (.string (⟨#[]⟩))]) (r_build (l := [_, _]) (qs := [(0, 1), (1, 1)]) Tryz.underlying88 Tryz.zeroValue88 ⟨rfl, Tryz.sizeOf9, rfl, Tryz.sizeOf9, trivial⟩ rfl) <| l_litA (col := col_290) (r := (Rep.pair Rep.str Rep.str)) (xs := ([(⟨#[37]⟩, ⟨#[]⟩)] : List (ByteArray × ByteArray))) [(.agg #[(.string (⟨#[37]⟩)), (.string (⟨#[]⟩))])] 13 (RowsH.ofF (Rows.consF (r := (Rep.pair Rep.str Rep.str)) (x := (⟨#[37]⟩, ⟨#[]⟩)) (cs := [(.string (⟨#[37]⟩)), (.string (⟨#[]⟩))]) (rd_pairI (rd_str (⟨#[37]⟩)) (rd_str (⟨#[]⟩))) Rows.nil0)) ?_;intro a_296 w_297 col_298 hg_299 h_300;obtain ⟨hb_301, hm⟩ := chk_some hm;replace hE_294 := hE_294.gr hg_299;refine l_ext (col := col_298) (w := w_297) (r := (Rep.pair Rep.str Rep.str)) (c := 10) (c2 := 10) hE_294 (h_300.srcN (NB.pair NB.str NB.str)) rfl Tryz.underlying78 el88_28 rfl rfl rfl hb_301.1 hb_301.2 (by decide) ?_;intro a_302 cap_303 w_304 col_305 hk_306 h_307;refine go ?_;replace hH_260 := (hH_260.gr hg_299).kpp hk_306;replace h_277 := (h_277.gr hg_299).kpp hk_306;replace h_284 := (h_284.gr hg_299).kpp hk_306;replace hst := (hst.grow hg_299).kpp hk_306;exact ⟨n_287, by omega, rfl, ⟨_, _, _, _, _, _, rfl, hm, hst, h_307, h_277, h_284, hH_260, rfl⟩⟩
     have h_308 := hE_294.old;refine go ?_;have hE_310 := h_277.ex;refine wloopK [0, 10, 7, 1000000] (fun n f w_311 => ∃ col_312 a_313 cap_314 l_315 k_317 n_309, n_309 = n ∧ m_l23_spoilt_L7 N i_255 (m_l23_spoilt_L5 N l_4 n_252) e_256 n_309 l_315 k_317 = some r ∧ St w0 (colL [qc0] col) col_312 w_311 ∧ Own (Rep.pair Rep.str Rep.str) 88 10 col_312 w_311 a_268 cap_269 e_256.2.1 ∧ Ex (Rep.pair Rep.str Rep.str) 88 11 col_312 w_311 a_275 cap_276 e_256.2.2.1 a_313 cap_314 l_315 ∧ Own Rep.str 9 12 col_312 w_311 a_282 cap_283 e_256.2.2.2.2.1 ∧ Hole (Rep.pair (Rep.int .i8) (Rep.pair (Rep.row 88 (Rep.pair Rep.str Rep.str)) (Rep.pair (Rep.row 88 (Rep.pair Rep.str Rep.str)) (Rep.pair (Rep.int .i8) (Rep.pair (Rep.row 9 Rep.str) (Rep.pair Rep.bool Rep.bool)))))) 81 440 col_312 w_311 a0 cap0 l_4 (Int.toNat i_255) [(.int .i8 e_256.1), (.slice a_268 e_256.2.1.length cap_269), (.slice a_275 e_256.2.2.1.length cap_276), (.int .i8 e_256.2.2.2.1), (.slice a_282 e_256.2.2.2.2.1.length cap_283), (.bool e_256.2.2.2.2.2.1), (.bool e_256.2.2.2.2.2.2)] ∧ [12, 9].map f = [.int .i64 k_317, .slice a_313 l_315.length cap_314]) N ⟨_, _, _, _, 0, _, rfl, hm, hst, h_308, hE_310, h_284, hH_260, rfl⟩ ?_;clear hm; intro n f w_311 hI;obtain ⟨col_312, a_313, cap_314, l_315, k_317, n_309, hn, hm, hst, h_308, hE_316, h_284, hH_260, hs⟩ := hI;subst hn;refine .lL [12, 9] hs ?_
     cases n_309 with
     | zero => rw [m_l23_spoilt_L7.eq_1] at hm; cases hm
     | succ n_309 =>
      rw [m_l23_spoilt_L7.eq_2] at hm;refine go ?_;refine wcb hm (fun hb hm => go ?_) fun hb hm => go ?_
      ·refine lV (.agg #[(.string (⟨#[37]⟩)), (.string (⟨#[]⟩))]) (r_build (l := [_, _]) (qs := [(0, 1), (1, 1)]) Tryz.underlying88 Tryz.zeroValue88 ⟨rfl, Tryz.sizeOf9, rfl, Tryz.sizeOf9, trivial⟩ rfl) <| l_litA (col := col_312) (r := (Rep.pair Rep.str Rep.str)) (xs := ([(⟨#[37]⟩, ⟨#[]⟩)] : List (ByteArray × ByteArray))) [(.agg #[(.string (⟨#[37]⟩)), (.string (⟨#[]⟩))])] 14 (RowsH.ofF (Rows.consF (r := (Rep.pair Rep.str Rep.str)) (x := (⟨#[37]⟩, ⟨#[]⟩)) (cs := [(.string (⟨#[37]⟩)), (.string (⟨#[]⟩))]) (rd_pairI (rd_str (⟨#[37]⟩)) (rd_str (⟨#[]⟩))) Rows.nil0)) ?_;intro a_318 w_319 col_320 hg_321 h_322;obtain ⟨hb_323, hm⟩ := chk_some hm;replace hE_316 := hE_316.gr hg_321;refine l_ext (col := col_320) (w := w_319) (r := (Rep.pair Rep.str Rep.str)) (c := 11) (c2 := 11) hE_316 (h_322.srcN (NB.pair NB.str NB.str)) rfl Tryz.underlying78 el88_28 rfl rfl rfl hb_323.1 hb_323.2 (by decide) ?_;intro a_324 cap_325 w_326 col_327 hk_328 h_329;refine go ?_;replace hH_260 := (hH_260.gr hg_321).kpp hk_328;replace h_308 := (h_308.gr hg_321).kpp hk_328;replace h_284 := (h_284.gr hg_321).kpp hk_328;replace hst := (hst.grow hg_321).kpp hk_328;exact ⟨n_309, by omega, rfl, ⟨_, _, _, _, _, _, rfl, hm, hst, h_308, h_329, h_284, hH_260, rfl⟩⟩
      have h_330 := hE_316.old;refine go ?_;have hE_332 := h_284.ex;refine wloopK [0, 7, 1000000] (fun n f w_333 => ∃ col_334 a_335 cap_336 l_337 k_339 n_331, n_331 = n ∧ m_l23_spoilt_L8 N i_255 (m_l23_spoilt_L5 N l_4 n_252) n_331 l_337 k_339 = some r ∧ St w0 (colL [qc0] col) col_334 w_333 ∧ Own (Rep.pair Rep.str Rep.str) 88 10 col_334 w_333 a_268 cap_269 e_256.2.1 ∧ Own (Rep.pair Rep.str Rep.str) 88 11 col_334 w_333 a_275 cap_276 e_256.2.2.1 ∧ Ex Rep.str 9 12 col_334 w_333 a_282 cap_283 e_256.2.2.2.2.1 a_335 cap_336 l_337 ∧ Hole (Rep.pair (Rep.int .i8) (Rep.pair (Rep.row 88 (Rep.pair Rep.str Rep.str)) (Rep.pair (Rep.row 88 (Rep.pair Rep.str Rep.str)) (Rep.pair (Rep.int .i8) (Rep.pair (Rep.row 9 Rep.str) (Rep.pair Rep.bool Rep.bool)))))) 81 440 col_334 w_333 a0 cap0 l_4 (Int.toNat i_255) [(.int .i8 e_256.1), (.slice a_268 e_256.2.1.length cap_269), (.slice a_275 e_256.2.2.1.length cap_276), (.int .i8 e_256.2.2.2.1), (.slice a_282 e_256.2.2.2.2.1.length cap_283), (.bool e_256.2.2.2.2.2.1), (.bool e_256.2.2.2.2.2.2)] ∧ [10, 13].map f = [.slice a_335 l_337.length cap_336, .int .i64 k_339]) N ⟨_, _, _, _, 0, _, rfl, hm, hst, h_308, h_330, hE_332, hH_260, rfl⟩ ?_;clear hm; intro n f w_333 hI;obtain ⟨col_334, a_335, cap_336, l_337, k_339, n_331, hn, hm, hst, h_308, h_330, hE_338, hH_260, hs⟩ := hI;subst hn;refine .lL [10, 13] hs ?_
      cases n_331 with
      | zero => rw [m_l23_spoilt_L8.eq_1] at hm; cases hm
      | succ n_331 =>
       rw [m_l23_spoilt_L8.eq_2] at hm;refine go ?_;refine wcb hm (fun hb hm => go ?_) fun hb hm => go ?_
       ·refine l_litS (col := col_334) ([⟨#[37]⟩] : List ByteArray) 15 ?_;intro a_340 w_341 col_342 hg_343 h_344;obtain ⟨hb_345, hm⟩ := chk_some hm;replace hE_338 := hE_338.gr hg_343;refine l_ext (col := col_342) (w := w_341) (r := Rep.str) (c := 12) (c2 := 12) hE_338 (h_344.srcN NB.str) rfl Tryz.underlying47 el9_28 rfl rfl rfl hb_345.1 hb_345.2 (by decide) ?_;intro a_346 cap_347 w_348 col_349 hk_350 h_351;refine go ?_;replace hH_260 := (hH_260.gr hg_343).kpp hk_350;replace h_308 := (h_308.gr hg_343).kpp hk_350;replace h_330 := (h_330.gr hg_343).kpp hk_350;replace hst := (hst.grow hg_343).kpp hk_350;exact ⟨n_331, by omega, rfl, ⟨_, _, _, _, _, _, rfl, hm, hst, h_308, h_330, h_351, hH_260, rfl⟩⟩
       have h_352 := hE_338.old;have hx_353 := Has.join h_330.has (Has.joinL (rd_int .i8 e_256.2.2.2.1) (Has.joinR h_352.has (rd_pairI (rd_bool e_256.2.2.2.2.2.1) (rd_bool e_256.2.2.2.2.2.2)))) (by decide) (by decide);replace hH_260 := hH_260.recol 12 11 (by decide);replace h_308 := h_308.recol 12 11 (by decide);replace hst := hst.recol 12 11 (by decide) (by decide);have hx_354 := Has.join h_308.has hx_353 (by decide) (by decide);replace hH_260 := hH_260.recol 11 10 (by decide);replace hst := hst.recol 11 10 (by decide) (by decide);have h_355 := hH_260.close (Has.joinL (rd_int .i8 e_256.1) hx_354) (by decide) (by decide);rw [set_self hj_257] at h_355;replace hst := hst.recol 10 440 (by decide) (by decide);refine go ?_;exact ⟨n_252, by omega, rfl, ⟨_, _, _, rfl, hm, hst, h_355, rfl⟩⟩
   refine wloopK [0, 1000000] (fun n f w_357 => ∃ col_358 i_359 n_356, n_356 = n ∧ m_l23_spoilt_L9 N l_4 n_356 i_359 = some r ∧ St w0 (colL [qc0] col) col_358 w_357 ∧ Own (Rep.pair (Rep.int .i8) (Rep.pair (Rep.row 88 (Rep.pair Rep.str Rep.str)) (Rep.pair (Rep.row 88 (Rep.pair Rep.str Rep.str)) (Rep.pair (Rep.int .i8) (Rep.pair (Rep.row 9 Rep.str) (Rep.pair Rep.bool Rep.bool)))))) 81 440 col_358 w_357 a0 cap0 l_4 ∧ [14].map f = [.int .i64 i_359]) N ⟨_, 0, _, rfl, hm, hst, h_5, rfl⟩ ?_;clear hm; intro n f w_357 hI;obtain ⟨col_358, i_359, n_356, hn, hm, hst, h_5, hs⟩ := hI;subst hn;refine .lL [14] hs ?_
   cases n_356 with
   | zero => rw [m_l23_spoilt_L9.eq_1] at hm; cases hm
   | succ n_356 =>
    rw [m_l23_spoilt_L9.eq_2] at hm;refine go ?_;refine wcb hm (fun hb hm => go ?_) fun hb hm => go ?_
    ·refine wloopK [0, 14, 1000000] (fun n f w_361 => ∃ col_362 k_363 n_360, n_360 = n ∧ m_l23_spoilt_L10 N l_4 i_359 (m_l23_spoilt_L9 N l_4 n_356) n_360 k_363 = some r ∧ St w0 (colL [qc0] col) col_362 w_361 ∧ Own (Rep.pair (Rep.int .i8) (Rep.pair (Rep.row 88 (Rep.pair Rep.str Rep.str)) (Rep.pair (Rep.row 88 (Rep.pair Rep.str Rep.str)) (Rep.pair (Rep.int .i8) (Rep.pair (Rep.row 9 Rep.str) (Rep.pair Rep.bool Rep.bool)))))) 81 440 col_362 w_361 a0 cap0 l_4 ∧ [15].map f = [.int .i64 k_363]) N ⟨_, 0, _, rfl, hm, hst, h_5, rfl⟩ ?_;clear hm; intro n f w_361 hI;obtain ⟨col_362, k_363, n_360, hn, hm, hst, h_5, hs⟩ := hI;subst hn;refine .lL [15] hs ?_
     cases n_360 with
     | zero => rw [m_l23_spoilt_L10.eq_1] at hm; cases hm
     | succ n_360 =>
      rw [m_l23_spoilt_L10.eq_2] at hm;refine go ?_;obtain ⟨e_364, hj_365, hm⟩ := bZ hm;refine lI hj_365 (h_5.addr hj_365) <| lFa (sptr_addr (h_5.addr hj_365)) ?_;obtain ⟨_, hr_366, hA_367⟩ := h_5.atN hj_365;obtain ⟨_, _, rfl, hp_368, hp_369⟩ := hr_366.parts;obtain rfl := hp_368.int;obtain ⟨_, _, rfl, hp_370, hp_371⟩ := hp_369.parts;obtain ⟨a_372, cap_373, rfl, h_374⟩ := hp_370.row;obtain ⟨_, _, rfl, hp_375, hp_376⟩ := hp_371.parts;obtain ⟨a_377, cap_378, rfl, h_379⟩ := hp_375.row;obtain ⟨_, _, rfl, hp_380, hp_381⟩ := hp_376.parts;obtain rfl := hp_380.int;obtain ⟨_, _, rfl, hp_382, hp_383⟩ := hp_381.parts;obtain ⟨a_384, cap_385, rfl, h_386⟩ := hp_382.row;obtain ⟨_, _, rfl, hp_387, hp_388⟩ := hp_383.parts;obtain rfl := hp_387.bool;obtain rfl := hp_388.bool;refine lW ((hA_367).nth (q := 1) rfl) <| go ?_;refine wcb hm (fun hb hm => go ?_) fun hb hm => go ?_
      ·refine wquiet (col := col_362) (by kernel_rfl) (by kernel_rfl) <| go ?_;refine qI hj_365 (h_5.addr hj_365) <| qF (sptr_addr (h_5.addr hj_365)) ?_;obtain ⟨_, hr_389, hA_390⟩ := h_5.atN hj_365;obtain ⟨_, _, rfl, hp_391, hp_392⟩ := hr_389.parts;obtain rfl := hp_391.int;obtain ⟨_, _, rfl, hp_393, hp_394⟩ := hp_392.parts;obtain ⟨a_395, cap_396, rfl, h_397⟩ := hp_393.row;obtain ⟨_, _, rfl, hp_398, hp_399⟩ := hp_394.parts;obtain ⟨a_400, cap_401, rfl, h_402⟩ := hp_398.row;obtain ⟨_, _, rfl, hp_403, hp_404⟩ := hp_399.parts;obtain rfl := hp_403.int;obtain ⟨_, _, rfl, hp_405, hp_406⟩ := hp_404.parts;obtain ⟨a_407, cap_408, rfl, h_409⟩ := hp_405.row;obtain ⟨_, _, rfl, hp_410, hp_411⟩ := hp_406.parts;obtain rfl := hp_410.bool;obtain rfl := hp_411.bool;refine qW (fun _ hC => ((hA_390).nth (q := 1) rfl).gr (hC.bl col_362)) ?_;refine go ?_;obtain ⟨e_412, hj_413, hm⟩ := bZ hm;refine qI hj_413 (h_397.addr hj_413) <| qF (sptr_addr (h_397.addr hj_413)) ?_;obtain ⟨_, hr_414, hA_415⟩ := h_397.atN hj_413;obtain ⟨_, _, rfl, hp_416, hp_417⟩ := hr_414.parts;obtain rfl := hp_416.str;obtain rfl := hp_417.str;refine qW (fun _ hC => ((hA_415).nth (q := 0) rfl).gr (hC.bl col_362)) ?_;refine go ?_;obtain ⟨r_418, hr_419, hm⟩ := bZ hm;refine qc (v := (.string r_418)) rfl (fun _ hC => ⟨_, _, r_call1 Tryz.call60 rfl, (c_l23_mark (col := col_362) hr_419 :).mono fun _ _ h => ⟨h.1, hC.trans (.of_below h.2)⟩⟩) ?_;refine go ?_;refine qnil ?_;intro w_420 hC;replace hC := hC.bl col_362;replace h_5 := h_5.gr hC;replace hst := hst.grow hC;refine wcb hm (fun hb hm => go ?_) fun hb hm => go ?_
       ·cases hm;exact ⟨rfl, _, rfl, hst.finL rfl (cm [(440, qc0)]), hst.foL h_5, hlen_8⟩
       exact ⟨n_360, by omega, rfl, ⟨_, _, _, rfl, hm, hst, h_5, rfl⟩⟩
      refine wloopK [0, 14, 1000000] (fun n f w_422 => ∃ col_423 k_424 n_421, n_421 = n ∧ m_l23_spoilt_L11 N l_4 i_359 (m_l23_spoilt_L9 N l_4 n_356) n_421 k_424 = some r ∧ St w0 (colL [qc0] col) col_423 w_422 ∧ Own (Rep.pair (Rep.int .i8) (Rep.pair (Rep.row 88 (Rep.pair Rep.str Rep.str)) (Rep.pair (Rep.row 88 (Rep.pair Rep.str Rep.str)) (Rep.pair (Rep.int .i8) (Rep.pair (Rep.row 9 Rep.str) (Rep.pair Rep.bool Rep.bool)))))) 81 440 col_423 w_422 a0 cap0 l_4 ∧ [16].map f = [.int .i64 k_424]) N ⟨_, 0, _, rfl, hm, hst, h_5, rfl⟩ ?_;clear hm; intro n f w_422 hI;obtain ⟨col_423, k_424, n_421, hn, hm, hst, h_5, hs⟩ := hI;subst hn;refine .lL [16] hs ?_
      cases n_421 with
      | zero => rw [m_l23_spoilt_L11.eq_1] at hm; cases hm
      | succ n_421 =>
       rw [m_l23_spoilt_L11.eq_2] at hm;refine go ?_;obtain ⟨e_425, hj_426, hm⟩ := bZ hm;refine lI hj_426 (h_5.addr hj_426) <| lFa (sptr_addr (h_5.addr hj_426)) ?_;obtain ⟨_, hr_427, hA_428⟩ := h_5.atN hj_426;obtain ⟨_, _, rfl, hp_429, hp_430⟩ := hr_427.parts;obtain rfl := hp_429.int;obtain ⟨_, _, rfl, hp_431, hp_432⟩ := hp_430.parts;obtain ⟨a_433, cap_434, rfl, h_435⟩ := hp_431.row;obtain ⟨_, _, rfl, hp_436, hp_437⟩ := hp_432.parts;obtain ⟨a_438, cap_439, rfl, h_440⟩ := hp_436.row;obtain ⟨_, _, rfl, hp_441, hp_442⟩ := hp_437.parts;obtain rfl := hp_441.int;obtain ⟨_, _, rfl, hp_443, hp_444⟩ := hp_442.parts;obtain ⟨a_445, cap_446, rfl, h_447⟩ := hp_443.row;obtain ⟨_, _, rfl, hp_448, hp_449⟩ := hp_444.parts;obtain rfl := hp_448.bool;obtain rfl := hp_449.bool;refine lW ((hA_428).nth (q := 2) rfl) <| go ?_;refine wcb hm (fun hb hm => go ?_) fun hb hm => go ?_
       ·refine wquiet (col := col_423) (by kernel_rfl) (by kernel_rfl) <| go ?_;refine qI hj_426 (h_5.addr hj_426) <| qF (sptr_addr (h_5.addr hj_426)) ?_;obtain ⟨_, hr_450, hA_451⟩ := h_5.atN hj_426;obtain ⟨_, _, rfl, hp_452, hp_453⟩ := hr_450.parts;obtain rfl := hp_452.int;obtain ⟨_, _, rfl, hp_454, hp_455⟩ := hp_453.parts;obtain ⟨a_456, cap_457, rfl, h_458⟩ := hp_454.row;obtain ⟨_, _, rfl, hp_459, hp_460⟩ := hp_455.parts;obtain ⟨a_461, cap_462, rfl, h_463⟩ := hp_459.row;obtain ⟨_, _, rfl, hp_464, hp_465⟩ := hp_460.parts;obtain rfl := hp_464.int;obtain ⟨_, _, rfl, hp_466, hp_467⟩ := hp_465.parts;obtain ⟨a_468, cap_469, rfl, h_470⟩ := hp_466.row;obtain ⟨_, _, rfl, hp_471, hp_472⟩ := hp_467.parts;obtain rfl := hp_471.bool;obtain rfl := hp_472.bool;refine qW (fun _ hC => ((hA_451).nth (q := 2) rfl).gr (hC.bl col_423)) ?_;refine go ?_;obtain ⟨e_473, hj_474, hm⟩ := bZ hm;refine qI hj_474 (h_463.addr hj_474) <| qF (sptr_addr (h_463.addr hj_474)) ?_;obtain ⟨_, hr_475, hA_476⟩ := h_463.atN hj_474;obtain ⟨_, _, rfl, hp_477, hp_478⟩ := hr_475.parts;obtain rfl := hp_477.str;obtain rfl := hp_478.str;refine qW (fun _ hC => ((hA_476).nth (q := 0) rfl).gr (hC.bl col_423)) ?_;refine go ?_;obtain ⟨r_479, hr_480, hm⟩ := bZ hm;refine qc (v := (.string r_479)) rfl (fun _ hC => ⟨_, _, r_call1 Tryz.call60 rfl, (c_l23_mark (col := col_423) hr_480 :).mono fun _ _ h => ⟨h.1, hC.trans (.of_below h.2)⟩⟩) ?_;refine go ?_;refine qnil ?_;intro w_481 hC;replace hC := hC.bl col_423;replace h_5 := h_5.gr hC;replace hst := hst.grow hC;refine wcb hm (fun hb hm => go ?_) fun hb hm => go ?_
        ·cases hm;exact ⟨rfl, _, rfl, hst.finL rfl (cm [(440, qc0)]), hst.foL h_5, hlen_8⟩
        exact ⟨n_421, by omega, rfl, ⟨_, _, _, rfl, hm, hst, h_5, rfl⟩⟩
       refine wloopK [0, 14, 1000000] (fun n f w_483 => ∃ col_484 k_485 n_482, n_482 = n ∧ m_l23_spoilt_L12 N l_4 i_359 (m_l23_spoilt_L9 N l_4 n_356) n_482 k_485 = some r ∧ St w0 (colL [qc0] col) col_484 w_483 ∧ Own (Rep.pair (Rep.int .i8) (Rep.pair (Rep.row 88 (Rep.pair Rep.str Rep.str)) (Rep.pair (Rep.row 88 (Rep.pair Rep.str Rep.str)) (Rep.pair (Rep.int .i8) (Rep.pair (Rep.row 9 Rep.str) (Rep.pair Rep.bool Rep.bool)))))) 81 440 col_484 w_483 a0 cap0 l_4 ∧ [17].map f = [.int .i64 k_485]) N ⟨_, 0, _, rfl, hm, hst, h_5, rfl⟩ ?_;clear hm; intro n f w_483 hI;obtain ⟨col_484, k_485, n_482, hn, hm, hst, h_5, hs⟩ := hI;subst hn;refine .lL [17] hs ?_
       cases n_482 with
       | zero => rw [m_l23_spoilt_L12.eq_1] at hm; cases hm
       | succ n_482 =>
        rw [m_l23_spoilt_L12.eq_2] at hm;refine go ?_;obtain ⟨e_486, hj_487, hm⟩ := bZ hm;refine lI hj_487 (h_5.addr hj_487) <| lFa (sptr_addr (h_5.addr hj_487)) ?_;obtain ⟨_, hr_488, hA_489⟩ := h_5.atN hj_487;obtain ⟨_, _, rfl, hp_490, hp_491⟩ := hr_488.parts;obtain rfl := hp_490.int;obtain ⟨_, _, rfl, hp_492, hp_493⟩ := hp_491.parts;obtain ⟨a_494, cap_495, rfl, h_496⟩ := hp_492.row;obtain ⟨_, _, rfl, hp_497, hp_498⟩ := hp_493.parts;obtain ⟨a_499, cap_500, rfl, h_501⟩ := hp_497.row;obtain ⟨_, _, rfl, hp_502, hp_503⟩ := hp_498.parts;obtain rfl := hp_502.int;obtain ⟨_, _, rfl, hp_504, hp_505⟩ := hp_503.parts;obtain ⟨a_506, cap_507, rfl, h_508⟩ := hp_504.row;obtain ⟨_, _, rfl, hp_509, hp_510⟩ := hp_505.parts;obtain rfl := hp_509.bool;obtain rfl := hp_510.bool;refine lW ((hA_489).nth (q := 4) rfl) <| go ?_;refine wcb hm (fun hb hm => go ?_) fun hb hm => go ?_
        ·refine wquiet (col := col_484) (by kernel_rfl) (by kernel_rfl) <| go ?_;refine qI hj_487 (h_5.addr hj_487) <| qF (sptr_addr (h_5.addr hj_487)) ?_;obtain ⟨_, hr_511, hA_512⟩ := h_5.atN hj_487;obtain ⟨_, _, rfl, hp_513, hp_514⟩ := hr_511.parts;obtain rfl := hp_513.int;obtain ⟨_, _, rfl, hp_515, hp_516⟩ := hp_514.parts;obtain ⟨a_517, cap_518, rfl, h_519⟩ := hp_515.row;obtain ⟨_, _, rfl, hp_520, hp_521⟩ := hp_516.parts;obtain ⟨a_522, cap_523, rfl, h_524⟩ := hp_520.row;obtain ⟨_, _, rfl, hp_525, hp_526⟩ := hp_521.parts;obtain rfl := hp_525.int;obtain ⟨_, _, rfl, hp_527, hp_528⟩ := hp_526.parts;obtain ⟨a_529, cap_530, rfl, h_531⟩ := hp_527.row;obtain ⟨_, _, rfl, hp_532, hp_533⟩ := hp_528.parts;obtain rfl := hp_532.bool;obtain rfl := hp_533.bool;refine qW (fun _ hC => ((hA_512).nth (q := 4) rfl).gr (hC.bl col_484)) ?_;refine go ?_;obtain ⟨e_534, hj_535, hm⟩ := bZ hm;refine qI hj_535 (h_531.addr hj_535) <| qW (fun _ hC => (h_531.gr (hC.bl col_484)).atStr hj_535) ?_;refine go ?_;obtain ⟨r_536, hr_537, hm⟩ := bZ hm;refine qc (v := (.string r_536)) rfl (fun _ hC => ⟨_, _, r_call1 Tryz.call60 rfl, (c_l23_mark (col := col_484) hr_537 :).mono fun _ _ h => ⟨h.1, hC.trans (.of_below h.2)⟩⟩) ?_;refine go ?_;refine qnil ?_;intro w_538 hC;replace hC := hC.bl col_484;replace h_5 := h_5.gr hC;replace hst := hst.grow hC;refine wcb hm (fun hb hm => go ?_) fun hb hm => go ?_
         ·cases hm;exact ⟨rfl, _, rfl, hst.finL rfl (cm [(440, qc0)]), hst.foL h_5, hlen_8⟩
         exact ⟨n_482, by omega, rfl, ⟨_, _, _, rfl, hm, hst, h_5, rfl⟩⟩
        exact ⟨n_356, by omega, rfl, ⟨_, _, _, rfl, hm, hst, h_5, rfl⟩⟩
    refine wloopK [1000000] (fun n f w_540 => ∃ col_541 l_542 i_545 n_539, n_539 = n ∧ m_l23_spoilt_L13 N n_539 l_542 i_545 = some r ∧ St w0 (colL [qc0] col) col_541 w_540 ∧ Own (Rep.pair (Rep.int .i8) (Rep.pair (Rep.row 88 (Rep.pair Rep.str Rep.str)) (Rep.pair (Rep.row 88 (Rep.pair Rep.str Rep.str)) (Rep.pair (Rep.int .i8) (Rep.pair (Rep.row 9 Rep.str) (Rep.pair Rep.bool Rep.bool)))))) 81 440 col_541 w_540 a0 cap0 l_542 ∧ l_542.length = p0_l.length ∧ l_542.length = p0_l.length ∧ [0, 18].map f = [.slice a0 l_542.length cap0, .int .i64 i_545]) N ⟨_, _, 0, _, rfl, hm, hst, h_5, hlen_6, hlen_8, rfl⟩ ?_;clear hm; intro n f w_540 hI;obtain ⟨col_541, l_542, i_545, n_539, hn, hm, hst, h_543, hlen_544, hlen_546, hs⟩ := hI;subst hn;refine .lL [0, 18] hs ?_
    cases n_539 with
    | zero => rw [m_l23_spoilt_L13.eq_1] at hm; cases hm
    | succ n_539 =>
     rw [m_l23_spoilt_L13.eq_2] at hm;refine go ?_;refine wcb hm (fun hb hm => go ?_) fun hb hm => go ?_
     ·refine lV (.agg #[(.int .i8 0), (.slice none (([] : List (ByteArray × ByteArray)).length) 0), (.slice none (([] : List (ByteArray × ByteArray)).length) 0), (.int .i8 0), (.slice none (([] : List ByteArray).length) 0), (.bool false), (.bool false)]) (r_build (l := [_, _, _, _, _, _]) (qs := [(0, 1), (1, 1), (2, 1), (3, 1), (4, 1), (5, 2)]) Tryz.underlying81 Tryz.zeroValue81 ⟨rfl, Tryz.sizeOf36, rfl, Tryz.sizeOf78, rfl, Tryz.sizeOf78, rfl, Tryz.sizeOf36, rfl, Tryz.sizeOf47, rfl, Tryz.sizeOf79, trivial⟩ rfl) ?_;obtain ⟨e_547, hj_548, hm⟩ := bZ hm;refine lI hj_548 (h_543.addr hj_548) ?_;obtain ⟨xs_554, hz_553, hm⟩ := bZ hm;have hz_553 : xs_554 = l_542.set (Int.toNat i_545) (0, ([] : List (ByteArray × ByteArray)), ([] : List (ByteArray × ByteArray)), 0, ([] : List ByteArray), (false, false)) := (Option.some.inj hz_553).symm;refine l_store (x1 := (0, ([] : List (ByteArray × ByteArray)), ([] : List (ByteArray × ByteArray)), 0, ([] : List ByteArray), (false, false))) (v := (.agg #[(.int .i8 0), (.slice none (([] : List (ByteArray × ByteArray)).length) 0), (.slice none (([] : List (ByteArray × ByteArray)).length) 0), (.int .i8 0), (.slice none (([] : List ByteArray).length) 0), (.bool false), (.bool false)])) h_543 hj_548 rfl Tryz.sizeOf81 (rd_pairI (rd_int .i8 0) (rd_pairI rd_nilrow (rd_pairI rd_nilrow (rd_pairI (rd_int .i8 0) (rd_pairI rd_nilrow (rd_pairI (rd_bool false) (rd_bool false))))))) rfl rfl (by decide) ?_;intro w_549 hk_550 hs_551 h_552;rw [← hz_553] at h_552;have hlen_555 : xs_554.length = p0_l.length := (show l_542.length = xs_554.length by rw [hz_553, List.length_set]).symm.trans hlen_544;refine .ld (d := 0) (v := (.slice a0 xs_554.length cap0)) (congrArg (fun n => Value.slice a0 n cap0) (show l_542.length = xs_554.length by rw [hz_553, List.length_set])) ?_;refine go ?_;replace hst := hst.kp hk_550 hs_551;exact ⟨n_539, by omega, rfl, ⟨_, _, _, _, rfl, hm, hst, h_552, hlen_555, hlen_555, rfl⟩⟩
     cases hm;exact ⟨rfl, _, rfl, hst.finL rfl (cm [(440, qc0)]), hst.foL h_543, hlen_546⟩
def m_l23_QueryParse_J2 (v_134 : Bool) : Option Bool :=
  some v_134
def m_l23_QueryParse_J1 (N : Nat) (p0_text : ByteArray) (r_1 : ((List (Int × (List (ByteArray × ByteArray)) × (List (ByteArray × ByteArray)) × Int × (List ByteArray) × (Bool × Bool))) × (Int × Int × Int × ByteArray))) (r_18 : ((List (Int × (List (ByteArray × ByteArray)) × (List (ByteArray × ByteArray)) × Int × (List ByteArray) × (Bool × Bool))) × (Option (Int × Int × Int × ByteArray)))) (r_42 : ((List (Int × (List (ByteArray × ByteArray)) × (List (ByteArray × ByteArray)) × Int × (List ByteArray) × (Bool × Bool))) × (Option (Int × Int × Int × ByteArray)))) (v_94 : Bool) : Option Bool :=
  if v_94 = true then (some false) else ((m_l23_spoilt N r_18.1).bind fun r_95 => (m_query_Parse N p0_text).bind fun r_102 => if r_95.1 = true then ((m_r23_SameAll N r_42.1 r_1.1).bind fun r_136 => if r_136 = true then ((m_r23_SameAll N r_102.1 r_1.1).bind fun r_141 => m_l23_QueryParse_J2 r_141) else (m_l23_QueryParse_J2 false)) else (m_l23_QueryParse_J2 false))
def m_l23_QueryParse (N : Nat) (p0_text : ByteArray) : Option Bool :=
  if (decide (10000 < (p0_text.size : Int))) = true then (some true) else ((m_r23_Parse N p0_text).bind fun r_1 => (m_query_Parse N p0_text).bind fun r_18 => (m_l23_told r_18.2).bind fun r_28 => (m_query_Parse N p0_text).bind fun r_42 => (m_l23_told r_42.2).bind fun r_52 => if (!r_28.2) = true then (m_l23_QueryParse_J1 N p0_text r_1 r_18 r_42 true) else (if (!r_52.2) = true then (m_l23_QueryParse_J1 N p0_text r_1 r_18 r_42 true) else (if (!(decide (r_28.1.1 = r_1.2.1) && decide (r_28.1.2.1 = r_1.2.2.1) && decide (r_28.1.2.2.1 = r_1.2.2.2.1) && decide (r_28.1.2.2.2 = r_1.2.2.2.2))) = true then (m_l23_QueryParse_J1 N p0_text r_1 r_18 r_42 true) else (if (!(decide (r_52.1.1 = r_1.2.1) && decide (r_52.1.2.1 = r_1.2.2.1) && decide (r_52.1.2.2.1 = r_1.2.2.2.1) && decide (r_52.1.2.2.2 = r_1.2.2.2.2))) = true then (m_l23_QueryParse_J1 N p0_text r_1 r_18 r_42 true) else ((m_r23_SameAll N r_18.1 r_1.1).bind fun r_149 => if (!r_149) = true then (m_l23_QueryParse_J1 N p0_text r_1 r_18 r_42 true) else ((m_r23_SameAll N r_42.1 r_1.1).bind fun r_154 => m_l23_QueryParse_J1 N p0_text r_1 r_18 r_42 (!r_154)))))))
theorem c_l23_QueryParse (N : Nat) (col : Col) (w0 : World) (p0_text : ByteArray) (hgl : Gl (.iface 146 (.agg #[.pointer (some ⟨4, 30, none⟩)])) col w0) (r : Bool) (hm : m_l23_QueryParse N p0_text = some r) :
    Calls Tryz.prog 9 #[(.string p0_text)] w0 (fun e w' => e = .returned ((.bool r)) ∧ Below w0.heap.size w0 w') := by
 refine calls_of1 2 (m := 89) Tryz.func9 rfl rfl rfl rfl rfl ?_;rw [m_l23_QueryParse.eq_1] at hm;have hst := St.start col w0;refine go ?_;replace hgl := hgl.keep (Stay.start col w0);refine wcb hm (fun hb hm => go ?_) fun hb hm => go ?_
 ·cases hm;exact ⟨rfl, rfl, hst.below⟩
 obtain ⟨r_1, hr_2, hm⟩ := bZ hm;refine lcA (c_r23_Parse (col := (col0 col)) 1 hr_2) ?_;rintro _ w_6 ⟨col_8, ra_3, rc_4, rfl, hg_7, rh_5⟩;refine ⟨_, rfl, ?_⟩;refine lM (.tuple #[(.slice ra_3 r_1.1.length rc_4), (.agg #[(.int .i64 r_1.2.1), (.int .i64 r_1.2.2.1), (.int .i64 r_1.2.2.2.1), (.string r_1.2.2.2.2)])]) <| lV (.slice ra_3 r_1.1.length rc_4) (r_extract rfl rfl) <| lV (.agg #[(.int .i64 r_1.2.1), (.int .i64 r_1.2.2.1), (.int .i64 r_1.2.2.2.1), (.string r_1.2.2.2.2)]) (r_extract rfl rfl) <| l_allocA (col := col_8) #[(.int .i64 0), (.int .i64 0), (.int .i64 0), (.string (⟨#[]⟩))] 2 Tryz.zeroValue26 ?_;intro g_9 w_10 col_11 hg_12 hb_13;refine lAS rfl <| l_bsA hb_13 ?_;intro w_14 hk_15 hs_16 hb_17;refine go ?_;obtain ⟨r_18, hr_19, hm⟩ := bZ hm;replace hgl := ((hgl.gr hg_7).gr hg_12).kp hk_15;refine lcA (c_query_Parse 3 hr_19 hgl) ?_;rintro _ w_25 ⟨col_27, ra_20, rc_21, rv_23, rfl, hg_26, rh_22, rh_24⟩;refine ⟨_, rfl, ?_⟩;refine lM (.tuple #[(.slice ra_20 r_18.1.length rc_21), rv_23]) <| lV (.slice ra_20 r_18.1.length rc_21) (r_extract rfl rfl) <| lv (v := rv_23) rfl rfl (r_extract rfl rfl) <| lAS rfl <| lv (v := rv_23) rfl rfl (r_assign rfl) <| go ?_;refine lv (v := rv_23) rfl rfl (r_move rfl) ?_;obtain ⟨r_28, hr_29, hm⟩ := bZ hm;replace hgl := hgl.gr hg_26;refine lcA (c_l23_told hr_29 rh_24 hgl) ?_;rintro _ w_30 ⟨col_32, rfl, hg_31⟩;refine ⟨_, rfl, ?_⟩;refine lM (.tuple #[(.agg #[(.int .i64 r_28.1.1), (.int .i64 r_28.1.2.1), (.int .i64 r_28.1.2.2.1), (.string r_28.1.2.2.2)]), (.bool r_28.2)]) <| lV (.agg #[(.int .i64 r_28.1.1), (.int .i64 r_28.1.2.1), (.int .i64 r_28.1.2.2.1), (.string r_28.1.2.2.2)]) (r_extract rfl rfl) <| lV (.bool r_28.2) (r_extract rfl rfl) <| l_allocA (col := col_32) #[(.int .i64 0), (.int .i64 0), (.int .i64 0), (.string (⟨#[]⟩))] 4 Tryz.zeroValue26 ?_;intro g_33 w_34 col_35 hg_36 hb_37;refine l_bsA hb_37 ?_;intro w_38 hk_39 hs_40 hb_41;refine go ?_;obtain ⟨r_42, hr_43, hm⟩ := bZ hm;replace hgl := ((hgl.gr hg_31).gr hg_36).kp hk_39;refine lcA (c_query_Parse 5 hr_43 hgl) ?_;rintro _ w_49 ⟨col_51, ra_44, rc_45, rv_47, rfl, hg_50, rh_46, rh_48⟩;refine ⟨_, rfl, ?_⟩;refine lM (.tuple #[(.slice ra_44 r_42.1.length rc_45), rv_47]) <| lV (.slice ra_44 r_42.1.length rc_45) (r_extract rfl rfl) <| lv (v := rv_47) rfl rfl (r_extract rfl rfl) <| lAS rfl <| lv (v := rv_47) rfl rfl (r_assign rfl) <| go ?_;refine lv (v := rv_47) rfl rfl (r_move rfl) ?_;obtain ⟨r_52, hr_53, hm⟩ := bZ hm;replace hgl := hgl.gr hg_50;refine lcA (c_l23_told hr_53 rh_48 hgl) ?_;rintro _ w_54 ⟨col_56, rfl, hg_55⟩;refine ⟨_, rfl, ?_⟩
 refine lM (.tuple #[(.agg #[(.int .i64 r_52.1.1), (.int .i64 r_52.1.2.1), (.int .i64 r_52.1.2.2.1), (.string r_52.1.2.2.2)]), (.bool r_52.2)]) <| lV (.agg #[(.int .i64 r_52.1.1), (.int .i64 r_52.1.2.1), (.int .i64 r_52.1.2.2.1), (.string r_52.1.2.2.2)]) (r_extract rfl rfl) <| lV (.bool r_52.2) (r_extract rfl rfl) <| l_allocA (col := col_56) #[(.int .i64 0), (.int .i64 0), (.int .i64 0), (.string (⟨#[]⟩))] 6 Tryz.zeroValue26 ?_;intro g_57 w_58 col_59 hg_60 hb_61;refine l_bsA hb_61 ?_;intro w_62 hk_63 hs_64 hb_65;refine lAB rfl <| lnil <| wseq <| wseq ?_;replace hst := ((((((((((hst.grow hg_7).grow hg_12).kp hk_15 hs_16).grow hg_26).grow hg_31).grow hg_36).kp hk_39 hs_40).grow hg_50).grow hg_55).grow hg_60).kp hk_63 hs_64;replace rh_5 := (((((((((rh_5.gr hg_12).kp hk_15).gr hg_26).gr hg_31).gr hg_36).kp hk_39).gr hg_50).gr hg_55).gr hg_60).kp hk_63;replace hb_17 := (((((((hb_17.gr hg_26).gr hg_31).gr hg_36).kp hk_39).gr hg_50).gr hg_55).gr hg_60).kp hk_63;replace rh_22 := ((((((rh_22.gr hg_31).gr hg_36).kp hk_39).gr hg_50).gr hg_55).gr hg_60).kp hk_63;replace hb_41 := (((hb_41.gr hg_50).gr hg_55).gr hg_60).kp hk_63;replace hgl := ((hgl.gr hg_55).gr hg_60).kp hk_63;replace rh_46 := ((rh_46.gr hg_55).gr hg_60).kp hk_63;refine Wp.cutK [0, 3, 5, 9, 1000000] (fun f w_92 => ∃ col_93 v_94, m_l23_QueryParse_J1 N p0_text r_1 r_18 r_42 v_94 = some r ∧ St w0 (col0 col) col_93 w_92 ∧ Own (Rep.pair (Rep.int .i8) (Rep.pair (Rep.slice (Rep.pair Rep.str Rep.str)) (Rep.pair (Rep.slice (Rep.pair Rep.str Rep.str)) (Rep.pair (Rep.int .i8) (Rep.pair (Rep.slice Rep.str) (Rep.pair Rep.bool Rep.bool)))))) 81 1 col_93 w_92 ra_3 rc_4 r_1.1 ∧ Own (Rep.pair (Rep.int .i8) (Rep.pair (Rep.row 88 (Rep.pair Rep.str Rep.str)) (Rep.pair (Rep.row 88 (Rep.pair Rep.str Rep.str)) (Rep.pair (Rep.int .i8) (Rep.pair (Rep.row 9 Rep.str) (Rep.pair Rep.bool Rep.bool)))))) 81 3 col_93 w_92 ra_20 rc_21 r_18.1 ∧ Own (Rep.pair (Rep.int .i8) (Rep.pair (Rep.row 88 (Rep.pair Rep.str Rep.str)) (Rep.pair (Rep.row 88 (Rep.pair Rep.str Rep.str)) (Rep.pair (Rep.int .i8) (Rep.pair (Rep.row 9 Rep.str) (Rep.pair Rep.bool Rep.bool)))))) 81 5 col_93 w_92 ra_44 rc_45 r_42.1 ∧ Gl (.iface 146 (.agg #[.pointer (some ⟨4, 30, none⟩)])) col_93 w_92 ∧ [70].map f = [.bool v_94]) ?_ ?_
 ·intro f w_92 hJ;obtain ⟨col_93, v_94, hm, hst, rh_5, rh_22, rh_46, hgl, hs⟩ := hJ;rw [m_l23_QueryParse_J1.eq_1] at hm;refine .lL [70] hs ?_;refine wcb hm (fun hb hm => go ?_) fun hb hm => go ?_
  ·cases hm;exact ⟨rfl, rfl, hst.below⟩
  obtain ⟨r_95, hr_96, hm⟩ := bZ hm;refine lcA (c_l23_spoilt 3 hr_96 rfl rh_22) ?_;rintro _ w_99 ⟨col_101, rfl, hg_100, oh_97, ohl_98⟩;refine ⟨_, rfl, ?_⟩;refine .ld (d := 71) (v := (.slice ra_20 r_95.2.length rc_21)) (congrArg (fun n => Value.slice ra_20 n rc_21) (show r_18.1.length = r_95.2.length from ohl_98.symm)) ?_;refine go ?_;obtain ⟨r_102, hr_103, hm⟩ := bZ hm;replace hgl := hgl.kpp hg_100;refine lcA (c_query_Parse 7 hr_103 hgl) ?_;rintro _ w_109 ⟨col_111, ra_104, rc_105, rv_107, rfl, hg_110, rh_106, rh_108⟩;refine ⟨_, rfl, ?_⟩;refine lM (.tuple #[(.slice ra_104 r_102.1.length rc_105), rv_107]) <| lV (.slice ra_104 r_102.1.length rc_105) (r_extract rfl rfl) <| lv (v := rv_107) rfl rfl (r_extract rfl rfl) <| lAS rfl <| lv (v := rv_107) rfl rfl (r_assign rfl) <| lnil <| wseq ?_;replace rh_5 := (rh_5.kpp hg_100).gr hg_110;replace rh_46 := (rh_46.kpp hg_100).gr hg_110;replace hst := (hst.kpp hg_100).grow hg_110;replace hgl := hgl.gr hg_110;refine Wp.cutK [1000000] (fun f w_132 => ∃ col_133 v_134, m_l23_QueryParse_J2 v_134 = some r ∧ St w0 (col0 col) col_133 w_132 ∧ Gl (.iface 146 (.agg #[.pointer (some ⟨4, 30, none⟩)])) col_133 w_132 ∧ [2].map f = [.bool v_134]) ?_ ?_
  ·intro f w_132 hJ;obtain ⟨col_133, v_134, hm, hst, hgl, hs⟩ := hJ;rw [m_l23_QueryParse_J2.eq_1] at hm;refine .lL [2] hs <| wret ?_;cases hm;exact ⟨rfl, rfl, hst.below⟩
  refine go ?_;refine bcb hm (fun hg_135 hm => go ?_) fun hg_135 hm => go ?_
  ·obtain ⟨r_136, hr_137, hm⟩ := bZ hm;refine lcA (c_r23_SameAll hr_137 ((rh_46.toSlF (Froz.pair (Froz.int .i8) (Froz.pair (Froz.row (Froz.pair Froz.str Froz.str)) (Froz.pair (Froz.row (Froz.pair Froz.str Froz.str)) (Froz.pair (Froz.int .i8) (Froz.pair (Froz.row Froz.str) (Froz.pair Froz.bool Froz.bool))))))).froz 1) ((rh_5.froz 5 (by decide)).toSlF (Froz.pair (Froz.int .i8) (Froz.pair Froz.slice (Froz.pair Froz.slice (Froz.pair (Froz.int .i8) (Froz.pair Froz.slice (Froz.pair Froz.bool Froz.bool)))))))) ?_;rintro _ w_138 ⟨rfl, hg_139⟩;refine ⟨_, rfl, ?_⟩;replace hg_139 : Grow col_111 w_109 col_111 w_138 := .of_below hg_139;refine lV (.bool r_136) (r_pickT (congrArg Value.bool hg_135) rfl) <| lMB rfl ?_;replace rh_5 := rh_5.gr hg_139;replace hgl := hgl.gr hg_139;replace rh_106 := rh_106.gr hg_139;replace hst := hst.grow hg_139;refine bcb hm (fun hg_140 hm => go ?_) fun hg_140 hm => go ?_
   ·obtain ⟨r_141, hr_142, hm⟩ := bZ hm;refine lcA (c_r23_SameAll hr_142 ((rh_106.toSlF (Froz.pair (Froz.int .i8) (Froz.pair (Froz.row (Froz.pair Froz.str Froz.str)) (Froz.pair (Froz.row (Froz.pair Froz.str Froz.str)) (Froz.pair (Froz.int .i8) (Froz.pair (Froz.row Froz.str) (Froz.pair Froz.bool Froz.bool))))))).froz 1) ((rh_5.froz 7 (by decide)).toSlF (Froz.pair (Froz.int .i8) (Froz.pair Froz.slice (Froz.pair Froz.slice (Froz.pair (Froz.int .i8) (Froz.pair Froz.slice (Froz.pair Froz.bool Froz.bool)))))))) ?_;rintro _ w_143 ⟨rfl, hg_144⟩;refine ⟨_, rfl, ?_⟩;replace hg_144 : Grow col_111 w_138 col_111 w_143 := .of_below hg_144;refine lV (.bool r_141) (r_pickT (congrArg Value.bool hg_140) rfl) <| go ?_;replace hgl := hgl.gr hg_144;replace hst := hst.grow hg_144;exact ⟨rfl, _, _, hm, hst, hgl, rfl⟩
   refine lV (.bool false) (r_pickF (congrArg Value.bool hg_140) rfl) <| go ?_;exact ⟨rfl, _, _, hm, hst, hgl, rfl⟩
  refine lV (.bool false) (r_pickF (congrArg Value.bool hg_135) rfl) <| lMB rfl <| lP 84 rfl rfl <| lP 84 rfl rfl <| lP 84 rfl rfl <| lV (.bool false) (r_pickF rfl rfl) <| go ?_;exact ⟨rfl, _, _, hm, hst, hgl, rfl⟩
 refine go ?_;refine bcb hm (fun hg_145 hm => go ?_) fun hg_145 hm => go ?_
 ·refine lV (.bool true) (r_pickT (congrArg Value.bool hg_145) rfl) <| lMB rfl <| lP 49 rfl rfl <| lP 49 rfl rfl <| lP 49 rfl rfl <| lV (.bool true) (r_pickT rfl rfl) <| lMB rfl <| lP 54 rfl rfl <| lP 54 rfl rfl <| lP 54 rfl rfl <| lV (.bool true) (r_pickT rfl rfl) <| lMB rfl <| lP 59 rfl rfl <| lP 59 rfl rfl <| lP 59 rfl rfl <| lP 59 rfl rfl <| lV (.bool true) (r_pickT rfl rfl) <| lMB rfl <| lP 65 rfl rfl <| lP 65 rfl rfl <| lP 65 rfl rfl <| lP 65 rfl rfl <| lV (.bool true) (r_pickT rfl rfl) <| lnil ?_;exact ⟨rfl, _, _, hm, hst, rh_5, rh_22, rh_46, hgl, rfl⟩
 refine lV (.bool (!r_52.2)) (r_pickF (congrArg Value.bool hg_145) rfl) <| lMB rfl ?_;refine bcb hm (fun hg_146 hm => go ?_) fun hg_146 hm => go ?_
 ·refine lV (.bool true) (r_pickT (congrArg Value.bool hg_146) rfl) <| lMB rfl <| lP 54 rfl rfl <| lP 54 rfl rfl <| lP 54 rfl rfl <| lV (.bool true) (r_pickT rfl rfl) <| lMB rfl <| lP 59 rfl rfl <| lP 59 rfl rfl <| lP 59 rfl rfl <| lP 59 rfl rfl <| lV (.bool true) (r_pickT rfl rfl) <| lMB rfl <| lP 65 rfl rfl <| lP 65 rfl rfl <| lP 65 rfl rfl <| lP 65 rfl rfl <| lV (.bool true) (r_pickT rfl rfl) <| lnil ?_;exact ⟨rfl, _, _, hm, hst, rh_5, rh_22, rh_46, hgl, rfl⟩
 refine lV _ (r_ldB Tryz.isAgg26 Tryz.sizeOf26 hb_41) <| go ?_;refine lV _ (r_ldB Tryz.isAgg26 Tryz.sizeOf26 hb_17) <| go ?_;refine lV (.bool (!(decide (r_28.1.1 = r_1.2.1) && decide (r_28.1.2.1 = r_1.2.2.1) && decide (r_28.1.2.2.1 = r_1.2.2.2.1) && decide (r_28.1.2.2.2 = r_1.2.2.2.2)))) (r_neqA rfl rfl (by decide +kernel) (eq_struct4 Tryz.underlying26 (by decide +kernel) (by decide) (by decide) (by decide) (by decide) (r_part Tryz.isAgg24 rfl) (r_part Tryz.isAgg24 rfl) (r_part Tryz.isAgg3 rfl) (r_part Tryz.isAgg3 rfl) (r_part Tryz.isAgg3 rfl) (r_part Tryz.isAgg3 rfl) (r_part Tryz.isAgg9 rfl) (r_part Tryz.isAgg9 rfl) (peq_int r_28.1.1 r_1.2.1 Tryz.underlying24) (peq_int r_28.1.2.1 r_1.2.2.1 Tryz.underlying3) (peq_int r_28.1.2.2.1 r_1.2.2.2.1 Tryz.underlying3) (peq_str r_28.1.2.2.2 r_1.2.2.2.2 Tryz.underlying9))) <| lV (.bool (!(decide (r_28.1.1 = r_1.2.1) && decide (r_28.1.2.1 = r_1.2.2.1) && decide (r_28.1.2.2.1 = r_1.2.2.2.1) && decide (r_28.1.2.2.2 = r_1.2.2.2.2)))) (r_pickF (congrArg Value.bool hg_146) rfl) <| lMB rfl ?_;refine bcb hm (fun hg_147 hm => go ?_) fun hg_147 hm => go ?_
 ·refine lV (.bool true) (r_pickT (congrArg Value.bool hg_147) rfl) <| lMB rfl <| lP 59 rfl rfl <| lP 59 rfl rfl <| lP 59 rfl rfl <| lP 59 rfl rfl <| lV (.bool true) (r_pickT rfl rfl) <| lMB rfl <| lP 65 rfl rfl <| lP 65 rfl rfl <| lP 65 rfl rfl <| lP 65 rfl rfl <| lV (.bool true) (r_pickT rfl rfl) <| lnil ?_;exact ⟨rfl, _, _, hm, hst, rh_5, rh_22, rh_46, hgl, rfl⟩
 refine lV _ (r_ldB Tryz.isAgg26 Tryz.sizeOf26 hb_65) <| go ?_;refine lV _ (r_ldB Tryz.isAgg26 Tryz.sizeOf26 hb_17) <| go ?_;refine lV (.bool (!(decide (r_52.1.1 = r_1.2.1) && decide (r_52.1.2.1 = r_1.2.2.1) && decide (r_52.1.2.2.1 = r_1.2.2.2.1) && decide (r_52.1.2.2.2 = r_1.2.2.2.2)))) (r_neqA rfl rfl (by decide +kernel) (eq_struct4 Tryz.underlying26 (by decide +kernel) (by decide) (by decide) (by decide) (by decide) (r_part Tryz.isAgg24 rfl) (r_part Tryz.isAgg24 rfl) (r_part Tryz.isAgg3 rfl) (r_part Tryz.isAgg3 rfl) (r_part Tryz.isAgg3 rfl) (r_part Tryz.isAgg3 rfl) (r_part Tryz.isAgg9 rfl) (r_part Tryz.isAgg9 rfl) (peq_int r_52.1.1 r_1.2.1 Tryz.underlying24) (peq_int r_52.1.2.1 r_1.2.2.1 Tryz.underlying3) (peq_int r_52.1.2.2.1 r_1.2.2.2.1 Tryz.underlying3) (peq_str r_52.1.2.2.2 r_1.2.2.2.2 Tryz.underlying9))) <| lV (.bool (!(decide (r_52.1.1 = r_1.2.1) && decide (r_52.1.2.1 = r_1.2.2.1) && decide (r_52.1.2.2.1 = r_1.2.2.2.1) && decide (r_52.1.2.2.2 = r_1.2.2.2.2)))) (r_pickF (congrArg Value.bool hg_147) rfl) <| lMB rfl ?_;refine bcb hm (fun hg_148 hm => go ?_) fun hg_148 hm => go ?_
 ·refine lV (.bool true) (r_pickT (congrArg Value.bool hg_148) rfl) <| lMB rfl <| lP 65 rfl rfl <| lP 65 rfl rfl <| lP 65 rfl rfl <| lP 65 rfl rfl <| lV (.bool true) (r_pickT rfl rfl) <| lnil ?_;exact ⟨rfl, _, _, hm, hst, rh_5, rh_22, rh_46, hgl, rfl⟩
 obtain ⟨r_149, hr_150, hm⟩ := bZ hm;refine lcA (c_r23_SameAll hr_150 ((rh_22.toSlF (Froz.pair (Froz.int .i8) (Froz.pair (Froz.row (Froz.pair Froz.str Froz.str)) (Froz.pair (Froz.row (Froz.pair Froz.str Froz.str)) (Froz.pair (Froz.int .i8) (Froz.pair (Froz.row Froz.str) (Froz.pair Froz.bool Froz.bool))))))).froz 1) ((rh_5.froz 3 (by decide)).toSlF (Froz.pair (Froz.int .i8) (Froz.pair Froz.slice (Froz.pair Froz.slice (Froz.pair (Froz.int .i8) (Froz.pair Froz.slice (Froz.pair Froz.bool Froz.bool)))))))) ?_;rintro _ w_151 ⟨rfl, hg_152⟩;refine ⟨_, rfl, ?_⟩;replace hg_152 : Grow col_59 w_62 col_59 w_151 := .of_below hg_152;refine go ?_;refine lV (.bool (!r_149)) (r_pickF (congrArg Value.bool hg_148) rfl) <| lMB rfl ?_;replace hgl := hgl.gr hg_152;replace rh_5 := rh_5.gr hg_152;replace rh_22 := rh_22.gr hg_152;replace rh_46 := rh_46.gr hg_152;replace hst := hst.grow hg_152;refine bcb hm (fun hg_153 hm => go ?_) fun hg_153 hm => go ?_
 ·refine lV (.bool true) (r_pickT (congrArg Value.bool hg_153) rfl) <| lnil ?_;exact ⟨rfl, _, _, hm, hst, rh_5, rh_22, rh_46, hgl, rfl⟩
 obtain ⟨r_154, hr_155, hm⟩ := bZ hm;refine lcA (c_r23_SameAll hr_155 ((rh_46.toSlF (Froz.pair (Froz.int .i8) (Froz.pair (Froz.row (Froz.pair Froz.str Froz.str)) (Froz.pair (Froz.row (Froz.pair Froz.str Froz.str)) (Froz.pair (Froz.int .i8) (Froz.pair (Froz.row Froz.str) (Froz.pair Froz.bool Froz.bool))))))).froz 1) ((rh_5.froz 5 (by decide)).toSlF (Froz.pair (Froz.int .i8) (Froz.pair Froz.slice (Froz.pair Froz.slice (Froz.pair (Froz.int .i8) (Froz.pair Froz.slice (Froz.pair Froz.bool Froz.bool)))))))) ?_;rintro _ w_156 ⟨rfl, hg_157⟩;refine ⟨_, rfl, ?_⟩;replace hg_157 : Grow col_59 w_151 col_59 w_156 := .of_below hg_157;refine go ?_;refine lV (.bool (!r_154)) (r_pickF (congrArg Value.bool hg_153) rfl) <| lnil ?_;replace hgl := hgl.gr hg_157;replace rh_5 := rh_5.gr hg_157;replace rh_22 := rh_22.gr hg_157;replace rh_46 := rh_46.gr hg_157;replace hst := hst.grow hg_157;exact ⟨rfl, _, _, hm, hst, rh_5, rh_22, rh_46, hgl, rfl⟩
variable {W : List TokV} {late : Option FltV}
theorem ms_fail_le (A : AS) : ms W (failA W A) ≤ ms W A := by rw [ms_fail]; exact Nat.zero_le _
theorem parse_sim (hW : Wds W late) {N M : Nat} (hN : 1048577 < N) (hM : 1048580 < M) : ∀ (m : Nat) (A : AS) (p : SP) (r : SR) (how : Int) (ord : List ByteArray) (c0 c1 : Bool) (l : List QV) (v1 v2 v3 : Int) (v4 : ByteArray) (k : Nat) (f g : Nat),
  ms W A ≤ m → RelP W late p A → RelR W late r A → ord.length ≤ 1048579 → Bnd l → l.length + ms W A ≤ 1048578 → (k ≤ 4096 ∨ ∃ b, A = .error b) → k ≤ 4098 → m < f → m < g →
  Out (m_query_Parse_L2 N f p.1 p.2.1 p.2.2.1 p.2.2.2 how ord c0 c1 l (k : Int)) (m_r23_Parse_L1 M g v1 v2 v3 v4 r.1 r.2.1.1 r.2.1.2.1 r.2.1.2.2.1 r.2.1.2.2.2 r.2.2.1 r.2.2.2.1 r.2.2.2.2.1 r.2.2.2.2.2.1 r.2.2.2.2.2.2 0 [] [] how ord c0 c1 l (IntKind.i64.wrap ((k : Int) + 1)))
 | m, A, p, r, how, ord, c0, c1, l, v1, v2, v3, v4, k, 0, g, hm, hp, hr, ho, hb, hl, hk, hk2, hf, hg => by omega
 | m, A, p, r, how, ord, c0, c1, l, v1, v2, v3, v4, k, f + 1, 0, hm, hp, hr, ho, hb, hl, hk, hk2, hf, hg => by omega
 | m, A, p, r, how, ord, c0, c1, l, v1, v2, v3, v4, k, f + 1, g + 1, hm, hp, hr, ho, hb, hl, hk, hk2, hf, hg => by
  obtain ⟨p1, a1, x1, _⟩ := lookP hW hp
  have h0 := isR hW hr 0 ⟨#[]⟩ (by decide)
  have he : isA W 0 ⟨#[]⟩ A = decide ((lkA W A).1 = 0) := by
   cases A with
   | error b => rfl
   | ok n => rw [isA]; show (decide ((tk W n).1 = 0) && (true || _)) = _; rw [Bool.true_or, Bool.and_true]; rfl
  have hw : IntKind.i64.wrap ((k : Int) + 1) = ((k + 1 : Nat) : Int) := by rw [w64 (by omega)]; rfl
  rw [m_query_Parse_L2.eq_2, a1, Option.bind_some, m_r23_Parse_L1.eq_2, h0, Option.bind_some, he, hw]
  dsimp only
  by_cases hend : (lkA W A).1 = 0
  ·rw [decide_eq_true hend, if_neg (by decide), if_pos rfl]
   exact ⟨l, none, rfl, rfl, fun b e => (by cases e), hb⟩
  ·rw [decide_eq_false hend, if_pos (show (!false) = true from rfl), if_neg ff]
   have body : ∀ (A1 : AS) (p' : SP) (r' : SR), ms W A1 ≤ ms W A → RelP W late p' A1 → RelR W late r' A1 → (k + 1 ≤ 4096 ∨ ∃ b, A1 = .error b) →
     Out (m_query_Parse_J1 N how ord c0 c1 l (m_query_Parse_L2 N f) p'.1 p'.2.1 p'.2.2.1 p'.2.2.2 ((k + 1 : Nat) : Int))
      (m_r23_Parse_J2 M v1 v2 v3 v4 0 [] [] how ord c0 c1 l ((k + 1 : Nat) : Int) (m_r23_Parse_L1 M g) r'.1 r'.2.1.1 r'.2.1.2.1 r'.2.1.2.2.1 r'.2.1.2.2.2 r'.2.2.1 r'.2.2.2.1 r'.2.2.2.2.1 r'.2.2.2.2.2.1 r'.2.2.2.2.2.2) := by
    intro A1 p' r' hle hp' hr' hk'
    refine body_sim hW hN hM (fun A' q s how' ord' e0 e1 l' w1 w2 w3 w4 hlt hq hs ho' hb' hl' => ?_) hp' hr' how ord c0 c1 l v1 v2 v3 v4 ho (by omega) hb
    have hk1 : k + 1 ≤ 4096 := by
     rcases hk' with h | ⟨b, h⟩
     ·exact h
     ·rw [h] at hlt; exact absurd hlt (Nat.not_lt_zero _)
    exact parse_sim hW hN hM (m - 1) A' q s how' ord' e0 e1 l' w1 w2 w3 w4 (k + 1) f g (by omega) hq hs ho' hb' hl' (.inl hk1) (by omega) (by omega) (by omega)
   by_cases hc : 4096 < k + 1
   ·obtain ⟨p2, a2, x2, _⟩ := failP hW x1
    obtain ⟨r2, b2, y2, _⟩ := wrongR hW hr
    rw [if_pos (decide_eq_true (by omega)), a2, Option.bind_some, if_pos (decide_eq_true (by omega)), b2, Option.bind_some]
    exact body (failA W A) p2 r2 (ms_fail_le A) x2 y2 (.inr (by cases A <;> exact ⟨_, rfl⟩))
   ·rw [if_neg (nd (by omega)), if_neg (nd (by omega))]
    exact body A p1 r (Nat.le_refl _) x1 hr (.inl (by omega))
/-! ### the words of a script -/
theorem start_L1 (late : Option FltV) : ∀ (l : List TokV) (acc : List TokV), acc.length + l.length ≤ 1048579 →
  m_query_start_L1 (l.map (fun x => (x, none)) ++ flL late) acc none 0 none = some (some (acc ++ l, late, 0, none))
 | [], acc, h => by
  cases late with
  | none => rw [List.map_nil, List.nil_append, flL, m_query_start_L1.eq_1, List.append_nil]
  | some e => rw [List.map_nil, List.nil_append, flL, m_query_start_L1.eq_2, List.append_nil]; rfl
 | x :: l, acc, h => by
  rw [List.length_cons] at h
  rw [List.map_cons, List.cons_append, m_query_start_L1.eq_2]
  show chk _ _ = _
  have hc : (acc.length + [x].length) * 40 ≤ 140737488355328 ∧ acc.length + [x].length ≤ maxLen := by
   have : [x].length = 1 := rfl
   rw [this]; simp only [maxLen]; omega
  refine (chk_pos hc).trans ?_
  have := start_L1 late l (acc ++ [x]) (by rw [List.length_append]; simp only [List.length_cons, List.length_nil]; omega)
  rw [List.append_assoc] at this
  exact this
theorem parse_eq {N : Nat} {t : ByteArray} (ht : t.size ≤ 1048576) (hN : 1048590 < N) : ∃ L e, m_query_Parse N t = some (L, e) ∧ m_r23_Parse N t = some (L, fltO e) ∧ (∀ b, e = some b → b.1 ≠ 0) ∧ Bnd L := by
 obtain ⟨l, f, hL⟩ := lexR_ex t t.size 0 (1, 1) (by omega) (by omega)
 obtain ⟨f1, f2, f3⟩ := hL.facts (by omega)
 have hW : Wds l f := ⟨by omega, f2⟩
 rw [m_query_Parse, m_query_start, lex_each_eq ht (by omega) (by omega) hL (by omega), Option.bind_some, start_L1 f l [] (by simp; omega), Option.bind_some, m_r23_Parse, ref_all_eq ht (by omega) (by omega) hL, Option.bind_some]
 rw [List.nil_append]
 have hA : ∃ A : AS, RelP l f (l, f, ((0 : Nat) : Int), none) A ∧ RelR l f (l, fltO f, ((0 : Nat) : Int), (0, (0, 0, ⟨#[]⟩))) A := by
  rcases Nat.eq_zero_or_pos l.length with h | h
  ·have hs : f.isSome = true := by
    cases f with
    | some x => rfl
    | none =>
     obtain ⟨x, hx, _⟩ := f2 rfl
     have : l = [] := List.length_eq_zero_iff.1 h
     rw [this] at hx; cases hx
   exact ⟨.error (lateB f), ⟨rfl, 0, by omega, .inr ⟨rfl, by omega, hs, rfl⟩⟩, ⟨rfl, 0, by omega, .inr ⟨_, rfl, by omega, hs, rfl⟩⟩⟩
  ·exact ⟨.ok 0, ⟨rfl, h⟩, ⟨_, rfl, h⟩⟩
 obtain ⟨A, hp, hr⟩ := hA
 have hm := ms_le hW hp
 exact parse_sim hW (N := N) (M := N) (by omega) (by omega) 1048577 A _ _ 1 [] false false [] 0 0 0 ⟨#[]⟩ 0 N N hm hp hr (by simp) Bnd.nil (by simp; omega) (.inl (by omega)) (by omega) (by omega) (by omega)

end Go.Proofs.YtnfegieaaaigmaaGreatDoor
