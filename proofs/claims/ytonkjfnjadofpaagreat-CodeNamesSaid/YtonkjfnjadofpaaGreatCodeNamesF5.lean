/-
  What functions of the program compute, as plain Lean functions (m_..), and proofs that they compute it (c_..). Printed by a program of the author; no conditions.
-/
import Derived.Test.YtonkjfnjadofpaaGreatCodeNamesBFloat
import Derived.Test.YtonkjfnjadofpaaGreatProg
import Derived.Test.YtonkjfnjadofpaaGreatCodeNamesBThree
import Derived.Test.YtonkjfnjadofpaaGreatCodeNamesF4
set_option linter.unusedVariables false
set_option maxRecDepth 100000
set_option maxHeartbeats 2000000
namespace Go.Proofs.YtonkjfnjadofpaaGreat
open Go Go.RowKit

def m_code_Decode_J1 (i_70 : Int) (kk_L1 : (Bool → (List Int) → (List Int) → Bool → (List Int) → (List Int) → Int → Option ((List Int) × Int × Int))) (s_73 : Bool) (s_74 : List Int) (s_78 : List Int) (s_82 : Bool) (s_83 : List Int) (s_87 : List Int) : Option ((List Int) × Int × Int) :=
  kk_L1 s_73 s_74 s_78 s_82 s_83 s_87 (IntKind.i64.wrap (i_70 + 1))
def m_code_Decode_J2 (N : Nat) (p1_bits : ByteArray) (s_52 : Bool) (s_53 : List Int) (s_57 : List Int) (s_61 : Bool) (s_62 : List Int) (s_66 : List Int) (i_70 : Int) (kk_L1 : (Bool → (List Int) → (List Int) → Bool → (List Int) → (List Int) → Int → Option ((List Int) × Int × Int))) : Option ((List Int) × Int × Int) :=
  (bat? p1_bits i_70).bind fun e_148 => (m_code_half N (((s_52, s_53), s_57), ((s_61, s_62), s_66)) (decide (e_148 = 49))).bind fun r_151 => m_code_Decode_J1 i_70 kk_L1 r_151.1.1.1 r_151.1.1.2 r_151.1.2 r_151.2.1.1 r_151.2.1.2 r_151.2.2
def m_code_Decode_J3 (N : Nat) (p1_bits : ByteArray) (s_52 : Bool) (s_53 : List Int) (s_57 : List Int) (s_61 : Bool) (s_62 : List Int) (s_66 : List Int) (i_70 : Int) (kk_L1 : (Bool → (List Int) → (List Int) → Bool → (List Int) → (List Int) → Int → Option ((List Int) × Int × Int))) (v_188 : Bool) : Option ((List Int) × Int × Int) :=
  if v_188 = true then none else (m_code_Decode_J2 N p1_bits s_52 s_53 s_57 s_61 s_62 s_66 i_70 kk_L1)
def m_code_Decode_L1 (N : Nat) (p0_n : (ByteArray × (List ByteArray) × (List (List ByteArray)) × (List (List Int)) × (List (List ((Bool × (List Int)) × (List Int)))))) (p1_bits : ByteArray) (r_10 : ((List Int) × Int)) : Nat → Bool → (List Int) → (List Int) → Bool → (List Int) → (List Int) → Int → Option ((List Int) × Int × Int)
  | 0, _, _, _, _, _, _, _ => none
  | n_49 + 1, s_52, s_53, s_57, s_61, s_62, s_66, i_70 => (m_code_within (((s_52, s_53), s_57), ((s_61, s_62), s_66))).bind fun r_93 => (m_code_cut_v2c124xssss N (p0_n.1, p0_n.2.1, p0_n.2.2.1, p0_n.2.2.2.1, p0_n.2.2.2.2) r_10.1 (((r_93.1.1.1, r_93.1.1.2), r_93.1.2), ((r_93.2.1.1, r_93.2.1.2), r_93.2.2))).bind fun r_114 => if r_114.2.2 = true then (some (r_114.1, i_70, 0)) else (if (decide (i_70 = (p1_bits.size : Int))) = true then (m_code_Decode_J3 N p1_bits s_52 s_53 s_57 s_61 s_62 s_66 i_70 (m_code_Decode_L1 N p0_n p1_bits r_10 n_49) true) else ((bat? p1_bits i_70).bind fun e_190 => if (!decide (e_190 = 48)) = true then ((bat? p1_bits i_70).bind fun e_193 => m_code_Decode_J3 N p1_bits s_52 s_53 s_57 s_61 s_62 s_66 i_70 (m_code_Decode_L1 N p0_n p1_bits r_10 n_49) (!decide (e_193 = 49))) else (m_code_Decode_J3 N p1_bits s_52 s_53 s_57 s_61 s_62 s_66 i_70 (m_code_Decode_L1 N p0_n p1_bits r_10 n_49) false)))
termination_by structural x => x
def m_code_Decode (N : Nat) (p0_n : (ByteArray × (List ByteArray) × (List (List ByteArray)) × (List (List Int)) × (List (List ((Bool × (List Int)) × (List Int)))))) (p1_bits : ByteArray) : Option ((List Int) × Int × Int) :=
  (m_model_Check N (p0_n.1, p0_n.2.1, p0_n.2.2.1, p0_n.2.2.2.1, p0_n.2.2.2.2)).bind fun r_6 => if (!decide (r_6 = 0)) = true then none else ((m_dag_Order N p0_n.2.2.2.1).bind fun r_10 => (m_frac_Sum N ([] : List ((Bool × (List Int)) × (List Int)))).bind fun r_18 => (m_code_one).bind fun r_29 => m_code_Decode_L1 N p0_n p1_bits r_10 N r_18.1.1 r_18.1.2 r_18.2 r_29.1.1 r_29.1.2 r_29.2 0)
theorem c_code_Decode (N : Nat) (c1 : Nat) (col : Col) (w0 : World) (a0_0 : Option Addr) (cap0_0 : Nat) (a0_2 : Option Addr) (cap0_2 : Nat) (a0_4 : Option Addr) (cap0_4 : Nat) (a0_6 : Option Addr) (cap0_6 : Nat) (p0_n : (ByteArray × (List ByteArray) × (List (List ByteArray)) × (List (List Int)) × (List (List ((Bool × (List Int)) × (List Int)))))) (p1_bits : ByteArray) (h0_0 : Sl Rep.str col w0 a0_0 cap0_0 p0_n.2.1) (h0_2 : Sl (Rep.slice Rep.str) col w0 a0_2 cap0_2 p0_n.2.2.1) (h0_4 : Sl (Rep.slice (Rep.int .i64)) col w0 a0_4 cap0_4 p0_n.2.2.2.1) (h0_6 : Sl (Rep.slice (Rep.pair (Rep.pair Rep.bool (Rep.slice (Rep.int .u32))) (Rep.slice (Rep.int .u32)))) col w0 a0_6 cap0_6 p0_n.2.2.2.2) (r : ((List Int) × Int × Int)) (hm : m_code_Decode N p0_n p1_bits = some r) :
    Calls Tryz.prog 20 #[(.agg #[(.string p0_n.1), (.slice a0_0 p0_n.2.1.length cap0_0), (.slice a0_2 p0_n.2.2.1.length cap0_2), (.slice a0_4 p0_n.2.2.2.1.length cap0_4), (.slice a0_6 p0_n.2.2.2.2.length cap0_6)]), (.string p1_bits)] w0 (fun e w' => ∃ (col' : Col) (ra1 : Option Addr) (rc2 : Nat), e = .returned (.tuple #[(.slice ra1 r.1.length rc2), (.int .i64 r.2.1), (.int .i64 r.2.2)]) ∧ Grow col w0 col' w' ∧ Own (Rep.int .i64) 3 c1 col' w' ra1 rc2 r.1) := by
 refine calls_of3 4 5 6 (m := 65) (args := [(.agg #[(.string p0_n.1), (.slice a0_0 p0_n.2.1.length cap0_0), (.slice a0_2 p0_n.2.2.1.length cap0_2), (.slice a0_4 p0_n.2.2.2.1.length cap0_4), (.slice a0_6 p0_n.2.2.2.2.length cap0_6)]), (.string p1_bits)]) Tryz.func20 rfl rfl rfl rfl rfl ?_
 rw [m_code_Decode.eq_1] at hm
 have hst := St.start col w0
 refine wS (wR ?_)
 refine l_box (col := (col0 col)) (v := (.agg #[(.string p0_n.1), (.slice a0_0 p0_n.2.1.length cap0_0), (.slice a0_2 p0_n.2.2.1.length cap0_2), (.slice a0_4 p0_n.2.2.2.1.length cap0_4), (.slice a0_6 p0_n.2.2.2.2.length cap0_6)])) 1 rfl rfl ?_
 intro g_1 w_2 col_3 hg_4 hb_5
 replace hb_5 : Box 28 1 col_3 w_2 g_1 #[(.string p0_n.1), (.slice a0_0 p0_n.2.1.length cap0_0), (.slice a0_2 p0_n.2.2.1.length cap0_2), (.slice a0_4 p0_n.2.2.2.1.length cap0_4), (.slice a0_6 p0_n.2.2.2.2.length cap0_6)] := hb_5
 refine lA (.slice none (([] : List Int).length) 0) ?_
 refine lA (.int .i64 0) ?_
 refine lA (.int .i64 0) ?_
 refine lN (wS (wS (wR ?_)))
 refine lV (.agg #[(.string p0_n.1), (.slice a0_0 p0_n.2.1.length cap0_0), (.slice a0_2 p0_n.2.2.1.length cap0_2), (.slice a0_4 p0_n.2.2.2.1.length cap0_4), (.slice a0_6 p0_n.2.2.2.2.length cap0_6)]) (r_ldN Tryz.isAgg28 Tryz.sizeOf28 rfl rfl hb_5.atN) ?_
 obtain ⟨r_6, hr_7, hm⟩ := bS hm
 replace h0_0 := (h0_0.keep (Stay.start col w0)).gr hg_4
 replace h0_2 := (h0_2.keep (Stay.start col w0)).gr hg_4
 replace h0_4 := (h0_4.keep (Stay.start col w0)).gr hg_4
 replace h0_6 := (h0_6.keep (Stay.start col w0)).gr hg_4
 refine lc rfl rfl (r_call1 Tryz.call69 rfl) (c_model_Check N col_3 _ a0_0 cap0_0 a0_2 cap0_2 a0_4 cap0_4 a0_6 cap0_6 (p0_n.1, p0_n.2.1, p0_n.2.2.1, p0_n.2.2.2.1, p0_n.2.2.2.2) h0_0 h0_2 h0_4 h0_6 r_6 hr_7) ?_
 rintro _ w_8 ⟨rfl, hg_9⟩
 refine ⟨_, rfl, ?_⟩
 replace hg_9 : Grow col_3 w_2 col_3 w_8 := .of_below hg_9
 refine lA (.int .i64 r_6) ?_
 refine lN (wS (wR ?_))
 refine lM (.int .i64 r_6) ?_
 refine lV (.bool (!decide (r_6 = 0))) (r_neq r_6 0 rfl rfl) ?_
 refine lN ?_
 replace hst := (hst.grow hg_4).grow hg_9
 replace h0_0 := h0_0.gr hg_9
 replace h0_2 := h0_2.gr hg_9
 replace h0_4 := h0_4.gr hg_9
 replace h0_6 := h0_6.gr hg_9
 replace hb_5 := hb_5.gr hg_9
 refine wcond (!decide (r_6 = 0)) rfl (fun hb => ?_) (fun hb => ?_)
 ·rw [if_pos hb] at hm
  clear hb
  cases hm
 rw [if_neg (by rw [hb]; decide)] at hm
 clear hb
 refine wK (wS (wR ?_))
 refine lV (.pointer ((some (⟨g_1, 0, none⟩ : Addr)).map (·.add 3))) (rF (sz := 1) (off := 3) Tryz.underlying28 rfl Tryz.sizeOf25 (by decide) rfl rfl ⟨_, _, rfl⟩) ?_
 refine lV (.slice a0_4 p0_n.2.2.2.1.length cap0_4) (r_ld Tryz.isAgg25 rfl ((hb_5.atN).nth (q := 3) (v := (.slice a0_4 p0_n.2.2.2.1.length cap0_4)) rfl)) ?_
 obtain ⟨r_10, hr_11, hm⟩ := bS hm
 refine lc rfl rfl (r_call1 Tryz.call70 rfl) (c_dag_Order N 2 col_3 _ a0_4 cap0_4 p0_n.2.2.2.1 h0_4 r_10 hr_11) ?_
 rintro _ w_15 ⟨col_17, ra_12, rc_13, rfl, hg_16, rh_14⟩
 refine ⟨_, rfl, ?_⟩
 refine lM (.tuple #[(.slice ra_12 r_10.1.length rc_13), (.int .i64 r_10.2)]) ?_
 refine lV (.slice ra_12 r_10.1.length rc_13) (r_extract rfl rfl) ?_
 refine lV (.int .i64 r_10.2) (r_extract rfl rfl) ?_
 refine lA (.slice ra_12 r_10.1.length rc_13) ?_
 refine lA (.int .i64 r_10.2) ?_
 refine lN (wS (wR ?_))
 obtain ⟨r_18, hr_19, hm⟩ := bS hm
 refine lc rfl rfl (r_call1 Tryz.call51 rfl) (c_frac_Sum N 3 4 col_17 _ none 0 ([] : List ((Bool × (List Int)) × (List Int))) Sl.nil r_18 hr_19) ?_
 rintro _ w_26 ⟨col_28, ra_20, rc_21, ra_23, rc_24, rfl, hg_27, rh_22, rh_25⟩
 refine ⟨_, rfl, ?_⟩
 obtain ⟨r_29, hr_30, hm⟩ := bS hm
 refine lc rfl rfl (r_call0 Tryz.call67 ) (c_code_one 5 6 col_28 _ r_29 hr_30) ?_
 rintro _ w_37 ⟨col_39, ra_31, rc_32, ra_34, rc_35, rfl, hg_38, rh_33, rh_36⟩
 refine ⟨_, rfl, ?_⟩
 refine lV (.agg #[(.bool r_18.1.1), (.slice ra_20 r_18.1.2.length rc_21), (.slice ra_23 r_18.2.length rc_24), (.bool r_29.1.1), (.slice ra_31 r_29.1.2.length rc_32), (.slice ra_34 r_29.2.length rc_35)]) (r_build (l := [_, _]) (qs := [(0, 3), (3, 3)]) Tryz.underlying62 Tryz.zeroValue62 ⟨rfl, Tryz.sizeOf40, rfl, Tryz.sizeOf40, trivial⟩ rfl) ?_
 refine l_alloc (col := col_39) (v := (.agg #[(.bool false), (.slice none (([] : List Int).length) 0), (.slice none (([] : List Int).length) 0), (.bool false), (.slice none (([] : List Int).length) 0), (.slice none (([] : List Int).length) 0)])) 7 rfl Tryz.zeroValue62 ?_
 intro g_40 w_41 col_42 hg_43 hb_44
 replace hb_44 : Box 62 7 col_42 w_41 g_40 #[(.bool false), (.slice none (([] : List Int).length) 0), (.slice none (([] : List Int).length) 0), (.bool false), (.slice none (([] : List Int).length) 0), (.slice none (([] : List Int).length) 0)] := hb_44
 refine l_bstore (v := (.agg #[(.bool r_18.1.1), (.slice ra_20 r_18.1.2.length rc_21), (.slice ra_23 r_18.2.length rc_24), (.bool r_29.1.1), (.slice ra_31 r_29.1.2.length rc_32), (.slice ra_34 r_29.2.length rc_35)])) hb_44 Tryz.sizeOf62 rfl rfl (by intro u hu; simp only [Value.cells, List.mem_cons, List.not_mem_nil, or_false] at hu; rcases hu with rfl | rfl | rfl | rfl | rfl | rfl <;> rfl) rfl rfl ?_
 intro w_45 hk_46 hs_47 hb_48
 clear hb_44
 replace hb_48 : Box 62 7 col_42 w_45 g_40 #[(.bool r_18.1.1), (.slice ra_20 r_18.1.2.length rc_21), (.slice ra_23 r_18.2.length rc_24), (.bool r_29.1.1), (.slice ra_31 r_29.1.2.length rc_32), (.slice ra_34 r_29.2.length rc_35)] := hb_48
 refine lN (wS (wR ?_))
 refine lA (.int .i64 0) ?_
 refine lN (wB ?_)
 replace h0_0 := ((((h0_0.gr hg_16).gr hg_27).gr hg_38).gr hg_43).kp hk_46
 replace h0_0 := h0_0.froz 3
 replace h0_2 := ((((h0_2.gr hg_16).gr hg_27).gr hg_38).gr hg_43).kp hk_46
 replace h0_2 := h0_2.froz 3
 replace h0_4 := ((((h0_4.gr hg_16).gr hg_27).gr hg_38).gr hg_43).kp hk_46
 replace h0_4 := h0_4.froz 3
 replace h0_6 := ((((h0_6.gr hg_16).gr hg_27).gr hg_38).gr hg_43).kp hk_46
 replace h0_6 := h0_6.froz 3
 replace rh_14 := (((rh_14.gr hg_27).gr hg_38).gr hg_43).kp hk_46
 replace rh_14 := rh_14.froz 3 (by decide)
 replace rh_22 := ((rh_22.gr hg_38).gr hg_43).kp hk_46
 replace rh_22 := (rh_22).toSlF (Froz.int .u32)
 replace rh_25 := ((rh_25.gr hg_38).gr hg_43).kp hk_46
 replace rh_25 := rh_25.froz 3 (by decide)
 replace rh_33 := (rh_33.gr hg_43).kp hk_46
 replace rh_33 := rh_33.froz 3 (by decide)
 replace rh_36 := (rh_36.gr hg_43).kp hk_46
 replace rh_36 := rh_36.froz 3 (by decide)
 replace hb_5 := ((((hb_5.gr hg_16).gr hg_27).gr hg_38).gr hg_43).kp hk_46
 replace hb_5 := hb_5.froz 3 (by decide)
 replace hb_48 := hb_48.froz 3 (by decide)
 replace hst := ((((hst.grow hg_16).grow hg_27).grow hg_38).grow hg_43).kp hk_46 hs_47
 replace hst := hst.froz 3 (by decide) (by decide)
 replace h0_0 := h0_0.froz 4
 replace h0_2 := h0_2.froz 4
 replace h0_4 := h0_4.froz 4
 replace h0_6 := h0_6.froz 4
 replace rh_14 := rh_14.froz 4 (by decide)
 replace rh_22 := rh_22.froz 4
 replace rh_25 := (rh_25).toSlF (Froz.int .u32)
 replace rh_33 := rh_33.froz 4 (by decide)
 replace rh_36 := rh_36.froz 4 (by decide)
 replace hb_5 := hb_5.froz 4 (by decide)
 replace hb_48 := hb_48.froz 4 (by decide)
 replace hst := hst.froz 4 (by decide) (by decide)
 replace h0_0 := h0_0.froz 5
 replace h0_2 := h0_2.froz 5
 replace h0_4 := h0_4.froz 5
 replace h0_6 := h0_6.froz 5
 replace rh_14 := rh_14.froz 5 (by decide)
 replace rh_22 := rh_22.froz 5
 replace rh_25 := rh_25.froz 5
 replace rh_33 := (rh_33).toSlF (Froz.int .u32)
 replace rh_36 := rh_36.froz 5 (by decide)
 replace hb_5 := hb_5.froz 5 (by decide)
 replace hb_48 := hb_48.froz 5 (by decide)
 replace hst := hst.froz 5 (by decide) (by decide)
 replace h0_0 := h0_0.froz 6
 replace h0_2 := h0_2.froz 6
 replace h0_4 := h0_4.froz 6
 replace h0_6 := h0_6.froz 6
 replace rh_14 := rh_14.froz 6 (by decide)
 replace rh_22 := rh_22.froz 6
 replace rh_25 := rh_25.froz 6
 replace rh_33 := rh_33.froz 6
 replace rh_36 := (rh_36).toSlF (Froz.int .u32)
 replace hb_5 := hb_5.froz 6 (by decide)
 replace hb_48 := hb_48.froz 6 (by decide)
 replace hst := hst.froz 6 (by decide) (by decide)
 replace h0_0 := h0_0.froz 2
 replace h0_2 := h0_2.froz 2
 replace h0_4 := h0_4.froz 2
 replace h0_6 := h0_6.froz 2
 replace rh_14 := (rh_14).toSlF (Froz.int .i64)
 replace rh_22 := rh_22.froz 2
 replace rh_25 := rh_25.froz 2
 replace rh_33 := rh_33.froz 2
 replace rh_36 := rh_36.froz 2
 replace hb_5 := hb_5.froz 2 (by decide)
 replace hb_48 := hb_48.froz 2 (by decide)
 replace hst := hst.froz 2 (by decide) (by decide)
 refine wloop (fun n f w_50 => ∃ (col_51 : Col) (s_52 : Bool) (a_54 : Option Addr) (cap_55 : Nat) (s_53 : List Int) (a_58 : Option Addr) (cap_59 : Nat) (s_57 : List Int) (s_61 : Bool) (a_63 : Option Addr) (cap_64 : Nat) (s_62 : List Int) (a_67 : Option Addr) (cap_68 : Nat) (s_66 : List Int) (i_70 : Int) (n_49 : Nat), n_49 = n ∧ m_code_Decode_L1 N p0_n p1_bits r_10 n_49 s_52 s_53 s_57 s_61 s_62 s_66 i_70 = some r ∧ St w0 (col0 col) col_51 w_50 ∧ Sl (Rep.int .u32) col_51 w_50 a_54 cap_55 s_53 ∧ Sl (Rep.int .u32) col_51 w_50 a_58 cap_59 s_57 ∧ Sl (Rep.int .u32) col_51 w_50 a_63 cap_64 s_62 ∧ Sl (Rep.int .u32) col_51 w_50 a_67 cap_68 s_66 ∧ Box 62 7 col_51 w_50 g_40 #[(.bool s_52), (.slice a_54 s_53.length cap_55), (.slice a_58 s_57.length cap_59), (.bool s_61), (.slice a_63 s_62.length cap_64), (.slice a_67 s_66.length cap_68)] ∧ Sl Rep.str col_51 w_50 a0_0 cap0_0 p0_n.2.1 ∧ Sl (Rep.slice Rep.str) col_51 w_50 a0_2 cap0_2 p0_n.2.2.1 ∧ Sl (Rep.slice (Rep.int .i64)) col_51 w_50 a0_4 cap0_4 p0_n.2.2.2.1 ∧ Sl (Rep.slice (Rep.pair (Rep.pair Rep.bool (Rep.slice (Rep.int .u32))) (Rep.slice (Rep.int .u32)))) col_51 w_50 a0_6 cap0_6 p0_n.2.2.2.2 ∧ Box 28 1 col_51 w_50 g_1 #[(.string p0_n.1), (.slice a0_0 p0_n.2.1.length cap0_0), (.slice a0_2 p0_n.2.2.1.length cap0_2), (.slice a0_4 p0_n.2.2.2.1.length cap0_4), (.slice a0_6 p0_n.2.2.2.2.length cap0_6)] ∧ Sl (Rep.int .i64) col_51 w_50 ra_12 rc_13 r_10.1 ∧ f 1 = (.string p1_bits) ∧ f 10 = (.pointer (some ⟨g_40, 0, none⟩)) ∧ f 11 = (.int .i64 i_70) ∧ f 2 = (.pointer (some ⟨g_1, 0, none⟩)) ∧ f 8 = (.slice ra_12 r_10.1.length rc_13) ∧ f 1000000 = (enc [])) N ⟨(frC 2 (frC 6 (frC 5 (frC 4 (frC 3 col_42))))), r_18.1.1, ra_20, rc_21, r_18.1.2, ra_23, rc_24, r_18.2, r_29.1.1, ra_31, rc_32, r_29.1.2, ra_34, rc_35, r_29.2, 0, N, rfl, hm, hst, rh_22, rh_25, rh_33, rh_36, hb_48, h0_0, h0_2, h0_4, h0_6, hb_5, rh_14, rfl, rfl, rfl, rfl, rfl, rfl⟩ ?_
 clear hm; intro n f w_50 hI
 obtain ⟨col_51, s_52, a_54, cap_55, s_53, a_58, cap_59, s_57, s_61, a_63, cap_64, s_62, a_67, cap_68, s_66, i_70, n_49, hn, hm, hst, h_56, h_60, h_65, h_69, hb_48, h0_0, h0_2, h0_4, h0_6, hb_5, rh_14, hs1, hs10, hs11, hs2, hs8, hs1000000⟩ := hI
 subst hn
 refine .lD 1 hs1 ?_
 refine .lD 10 hs10 ?_
 refine .lD 11 hs11 ?_
 refine .lD 2 hs2 ?_
 refine .lD 8 hs8 ?_
 refine .lD 1000000 hs1000000 ?_
 clear hs1 hs10 hs11 hs2 hs8 hs1000000
 cases n_49 with
 | zero => rw [m_code_Decode_L1.eq_1] at hm; cases hm
 | succ n_49 =>
  rw [m_code_Decode_L1.eq_2] at hm
  refine wS ?_
  refine Wp.cut (fun f w_71 => ∃ (col_72 : Col) (s_73 : Bool) (a_75 : Option Addr) (cap_76 : Nat) (s_74 : List Int) (a_79 : Option Addr) (cap_80 : Nat) (s_78 : List Int) (s_82 : Bool) (a_84 : Option Addr) (cap_85 : Nat) (s_83 : List Int) (a_88 : Option Addr) (cap_89 : Nat) (s_87 : List Int), m_code_Decode_J1 i_70 (m_code_Decode_L1 N p0_n p1_bits r_10 n_49) s_73 s_74 s_78 s_82 s_83 s_87 = some r ∧ St w0 (col0 col) col_72 w_71 ∧ Sl (Rep.int .u32) col_72 w_71 a_75 cap_76 s_74 ∧ Sl (Rep.int .u32) col_72 w_71 a_79 cap_80 s_78 ∧ Sl (Rep.int .u32) col_72 w_71 a_84 cap_85 s_83 ∧ Sl (Rep.int .u32) col_72 w_71 a_88 cap_89 s_87 ∧ Box 62 7 col_72 w_71 g_40 #[(.bool s_73), (.slice a_75 s_74.length cap_76), (.slice a_79 s_78.length cap_80), (.bool s_82), (.slice a_84 s_83.length cap_85), (.slice a_88 s_87.length cap_89)] ∧ Sl Rep.str col_72 w_71 a0_0 cap0_0 p0_n.2.1 ∧ Sl (Rep.slice Rep.str) col_72 w_71 a0_2 cap0_2 p0_n.2.2.1 ∧ Sl (Rep.slice (Rep.int .i64)) col_72 w_71 a0_4 cap0_4 p0_n.2.2.2.1 ∧ Sl (Rep.slice (Rep.pair (Rep.pair Rep.bool (Rep.slice (Rep.int .u32))) (Rep.slice (Rep.int .u32)))) col_72 w_71 a0_6 cap0_6 p0_n.2.2.2.2 ∧ Box 28 1 col_72 w_71 g_1 #[(.string p0_n.1), (.slice a0_0 p0_n.2.1.length cap0_0), (.slice a0_2 p0_n.2.2.1.length cap0_2), (.slice a0_4 p0_n.2.2.2.1.length cap0_4), (.slice a0_6 p0_n.2.2.2.2.length cap0_6)] ∧ Sl (Rep.int .i64) col_72 w_71 ra_12 rc_13 r_10.1 ∧ f 1 = (.string p1_bits) ∧ f 10 = (.pointer (some ⟨g_40, 0, none⟩)) ∧ f 11 = (.int .i64 i_70) ∧ f 2 = (.pointer (some ⟨g_1, 0, none⟩)) ∧ f 8 = (.slice ra_12 r_10.1.length rc_13) ∧ f 1000000 = (enc [])) ?_ ?_
  ·intro f w_71 hJ
   obtain ⟨col_72, s_73, a_75, cap_76, s_74, a_79, cap_80, s_78, s_82, a_84, cap_85, s_83, a_88, cap_89, s_87, hm, hst, h_77, h_81, h_86, h_90, hb_48, h0_0, h0_2, h0_4, h0_6, hb_5, rh_14, hs1, hs10, hs11, hs2, hs8, hs1000000⟩ := hJ
   rw [m_code_Decode_J1.eq_1] at hm
   refine .lD 1 hs1 ?_
   refine .lD 10 hs10 ?_
   refine .lD 11 hs11 ?_
   refine .lD 2 hs2 ?_
   refine .lD 8 hs8 ?_
   refine .lD 1000000 hs1000000 ?_
   clear hs1 hs10 hs11 hs2 hs8 hs1000000
   refine wR ?_
   refine lM (.int .i64 i_70) ?_
   refine lV (.int .i64 (IntKind.i64.wrap (i_70 + 1))) (r_add i_70 1 rfl rfl) ?_
   refine lA (.int .i64 (IntKind.i64.wrap (i_70 + 1))) ?_
   refine lN ?_
   exact ⟨n_49, by omega, ⟨col_72, s_73, a_75, cap_76, s_74, a_79, cap_80, s_78, s_82, a_84, cap_85, s_83, a_88, cap_89, s_87, (IntKind.i64.wrap (i_70 + 1)), n_49, rfl, hm, hst, h_77, h_81, h_86, h_90, hb_48, h0_0, h0_2, h0_4, h0_6, hb_5, rh_14, rfl, rfl, rfl, rfl, rfl, rfl⟩⟩
  refine wB (wS (wS ?_))
  have hk_91 := KeepP.clip (fun _ => false) col_51 w_50
  refine wmixF (col := col_51) [(0, 0), (1, 1), (2, 0), (3, 3), (4, 3), (5, 1), (6, 1), (7, 1), (8, 1), (9, 4), (10, 1), (11, 2), (12, 1)] (by kernel_rfl) (by kernel_rfl) ⟨fun h => absurd h (by decide), fun h => absurd h (by decide), fun h => absurd h (by decide), fun h => absurd h (by decide), fun h => absurd h (by decide), fun h => absurd h (by decide), fun h => absurd h (by decide), fun h => absurd h (by decide), fun h => absurd h (by decide), fun _ => ⟨_, _, _, rfl, free_alloc Tryz.zeroValue62⟩, fun h => absurd h (by decide), fun h => absurd h (by decide), fun h => absurd h (by decide), trivial⟩ ?_
  replace hb_5 := hb_5.kpp hk_91
  refine xvF (v := (.agg #[(.string p0_n.1), (.slice a0_0 p0_n.2.1.length cap0_0), (.slice a0_2 p0_n.2.2.1.length cap0_2), (.slice a0_4 p0_n.2.2.2.1.length cap0_4), (.slice a0_6 p0_n.2.2.2.2.length cap0_6)])) rfl rfl (fun _ hC => r_ldN Tryz.isAgg28 Tryz.sizeOf28 rfl rfl (hb_5.atN.gr (Grow.of_below (col := (clipC w_50 col_51)) hC.below))) ?_
  refine xuF (v := (.slice ra_12 r_10.1.length rc_13)) rfl rfl (fun _ => r_move rfl) ?_
  replace hb_48 := hb_48.kpp hk_91
  refine xvF (v := (.agg #[(.bool s_52), (.slice a_54 s_53.length cap_55), (.slice a_58 s_57.length cap_59), (.bool s_61), (.slice a_63 s_62.length cap_64), (.slice a_67 s_66.length cap_68)])) rfl rfl (fun _ hC => r_ldN Tryz.isAgg62 Tryz.sizeOf62 rfl rfl (hb_48.atN.gr (Grow.of_below (col := (clipC w_50 col_51)) hC.below))) ?_
  refine xeF rfl rfl ?_
  intro w_92 hC0
  have hC : Grow (clipC w_50 col_51) w_50 (clipC w_50 col_51) w_92 := .of_below hC0.below
  obtain ⟨r_93, hr_94, hm⟩ := bS hm
  replace h_56 := (h_56.kpp hk_91).gr hC
  replace h_60 := (h_60.kpp hk_91).gr hC
  replace h_65 := (h_65.kpp hk_91).gr hC
  replace h_69 := (h_69.kpp hk_91).gr hC
  refine lc rfl rfl (r_call1 Tryz.call72 rfl) (c_code_within 8 (clipC w_50 col_51) _ a_54 cap_55 a_58 cap_59 a_63 cap_64 a_67 cap_68 (((s_52, s_53), s_57), ((s_61, s_62), s_66)) h_56 h_60 h_65 h_69 r_93 hr_94) ?_
  rintro _ w_109 ⟨col_111, rg_95, ra_97, rc_98, ra_100, rc_101, ra_103, rc_104, ra_106, rc_107, rfl, hg_110, rh_96, rh_99, rh_102, rh_105, rh_108⟩
  refine ⟨_, rfl, ?_⟩
  refine lN ⟨fun w' => Grow (clipC w_109 col_111) w_109 (clipC w_109 col_111) w', fun g => (clipC w_109 col_111) g = 497, Grow.refl _ _, good_clip, fun _ => ⟨fun _ h => cls hC0 hg_110 h, fun b hb => hg_110.below.block b hb, fun g h1 h2 => fcl hg_110 g h1 (by first | exact h2 | (simp only [frC, rcC, h2]; rfl))⟩, ?_⟩
  have hk_112 := KeepP.clip (fun _ => false) col_111 w_109
  refine xeF rfl rfl ?_
  intro w_113 hC0
  replace h0_0 := (((h0_0.kpp hk_91).gr hC).gr hg_110).kpp hk_112
  replace h0_2 := (((h0_2.kpp hk_91).gr hC).gr hg_110).kpp hk_112
  replace h0_4 := (((h0_4.kpp hk_91).gr hC).gr hg_110).kpp hk_112
  replace h0_6 := (((h0_6.kpp hk_91).gr hC).gr hg_110).kpp hk_112
  replace rh_14 := (((rh_14.kpp hk_91).gr hC).gr hg_110).kpp hk_112
  replace hst := (((hst.kpp hk_91).grow hC).grow hg_110).kpp hk_112
  replace hb_48 := ((hb_48.gr hC).gr hg_110).kpp hk_112
  replace hb_5 := ((hb_5.gr hC).gr hg_110).kpp hk_112
  have hC : Grow (clipC w_109 col_111) w_109 (clipC w_109 col_111) w_113 := .of_below hC0.below
  obtain ⟨r_114, hr_115, hm⟩ := bS hm
  replace rh_99 := (rh_99.kpp hk_112).gr hC
  replace rh_102 := (rh_102.kpp hk_112).gr hC
  replace rh_105 := (rh_105.kpp hk_112).gr hC
  replace rh_108 := (rh_108.kpp hk_112).gr hC
  replace rh_96 := (rh_96.kpp hk_112).gr hC
  replace h0_0 := h0_0.gr hC
  replace h0_2 := h0_2.gr hC
  replace h0_4 := h0_4.gr hC
  replace h0_6 := h0_6.gr hC
  replace rh_14 := rh_14.gr hC
  refine lc rfl rfl (r_call3 Tryz.call71 rfl rfl rfl) (c_code_cut_v2c124xssss N 9 (clipC w_109 col_111) _ 8 (by decide) a0_0 cap0_0 a0_2 cap0_2 a0_4 cap0_4 a0_6 cap0_6 (p0_n.1, p0_n.2.1, p0_n.2.2.1, p0_n.2.2.2.1, p0_n.2.2.2.2) ra_12 rc_13 r_10.1 rg_95 (((r_93.1.1.1, r_93.1.1.2), r_93.1.2), ((r_93.2.1.1, r_93.2.1.2), r_93.2.2)) ra_97 rc_98 ra_100 rc_101 ra_103 rc_104 ra_106 rc_107 h0_0 h0_2 h0_4 h0_6 rh_14 rh_99 rh_102 rh_105 rh_108 rh_96 r_114 hr_115) ?_
  rintro _ w_131 ⟨col_133, ra_116, rc_117, ra_119, rc_120, ra_122, rc_123, ra_125, rc_126, ra_128, rc_129, rfl, hg_132, rh_118, rh_121, rh_124, rh_127, rh_130⟩
  refine ⟨_, rfl, ?_⟩
  refine lN ⟨fun w' => Grow (clipC w_131 col_133) w_131 (clipC w_131 col_133) w', fun g => (clipC w_131 col_133) g = 497, Grow.refl _ _, good_clip, fun _ => ⟨fun _ h => cls hC0 hg_132 h, fun b hb => hg_132.below.block b hb, fun g h1 h2 => fcl hg_132 g h1 (by first | exact h2 | (simp only [frC, rcC, h2]; rfl))⟩, ?_⟩
  have hk_134 := KeepP.clip (fun _ => false) col_133 w_131
  refine xuF (v := (.tuple #[(.slice ra_116 r_114.1.length rc_117), (.agg #[(.bool r_114.2.1.1.1.1), (.slice ra_119 r_114.2.1.1.1.2.length rc_120), (.slice ra_122 r_114.2.1.1.2.length rc_123), (.bool r_114.2.1.2.1.1), (.slice ra_125 r_114.2.1.2.1.2.length rc_126), (.slice ra_128 r_114.2.1.2.2.length rc_129)]), (.bool r_114.2.2)])) rfl rfl (fun _ => r_move rfl) ?_
  refine xuF (v := (.slice ra_116 r_114.1.length rc_117)) rfl rfl (fun _ => r_extract rfl rfl) ?_
  refine xuF (v := (.agg #[(.bool r_114.2.1.1.1.1), (.slice ra_119 r_114.2.1.1.1.2.length rc_120), (.slice ra_122 r_114.2.1.1.2.length rc_123), (.bool r_114.2.1.2.1.1), (.slice ra_125 r_114.2.1.2.1.2.length rc_126), (.slice ra_128 r_114.2.1.2.2.length rc_129)])) rfl rfl (fun _ => r_extract rfl rfl) ?_
  refine xuF (v := (.bool r_114.2.2)) rfl rfl (fun _ => r_extract rfl rfl) ?_
  refine xaF rfl rfl (free_alloc Tryz.zeroValue62) ?_
  intro g_135 hF_136
  refine xuF (v := (.slice ra_116 r_114.1.length rc_117)) rfl rfl (fun _ => r_assign rfl) ?_
  refine xeF rfl rfl ?_
  intro w_137 ⟨hC0, hZ0⟩
  replace h_56 := ((((h_56.gr hg_110).kpp hk_112).gr hC).gr hg_132).kpp hk_134
  replace h_60 := ((((h_60.gr hg_110).kpp hk_112).gr hC).gr hg_132).kpp hk_134
  replace h_65 := ((((h_65.gr hg_110).kpp hk_112).gr hC).gr hg_132).kpp hk_134
  replace h_69 := ((((h_69.gr hg_110).kpp hk_112).gr hC).gr hg_132).kpp hk_134
  replace hb_48 := ((hb_48.gr hC).gr hg_132).kpp hk_134
  replace hb_5 := ((hb_5.gr hC).gr hg_132).kpp hk_134
  replace hst := ((hst.grow hC).grow hg_132).kpp hk_134
  have hC : Grow (clipC w_131 col_133) w_131 (clipC w_131 col_133) w_137 := .of_below hC0.below
  obtain ⟨hk_139, hb_138⟩ := box_float (col := (clipC w_131 col_133)) 10 hZ0 hF_136
  replace hb_138 : Box 62 10 (setC g_135 10 (clipC w_131 col_133)) w_137 g_135 #[(.bool false), (.slice none (([] : List Int).length) 0), (.slice none (([] : List Int).length) 0), (.bool false), (.slice none (([] : List Int).length) 0), (.slice none (([] : List Int).length) 0)] := hb_138
  refine l_bstore (v := (.agg #[(.bool r_114.2.1.1.1.1), (.slice ra_119 r_114.2.1.1.1.2.length rc_120), (.slice ra_122 r_114.2.1.1.2.length rc_123), (.bool r_114.2.1.2.1.1), (.slice ra_125 r_114.2.1.2.1.2.length rc_126), (.slice ra_128 r_114.2.1.2.2.length rc_129)])) hb_138 Tryz.sizeOf62 rfl rfl (by intro u hu; simp only [Value.cells, List.mem_cons, List.not_mem_nil, or_false] at hu; rcases hu with rfl | rfl | rfl | rfl | rfl | rfl <;> rfl) rfl rfl ?_
  intro w_140 hk_141 hs_142 hb_143
  clear hb_138
  refine lN ⟨fun w' => Grow (clipC w_140 (setC g_135 10 (clipC w_131 col_133))) w_140 (clipC w_140 (setC g_135 10 (clipC w_131 col_133))) w', fun g => (clipC w_140 (setC g_135 10 (clipC w_131 col_133))) g = 497, Grow.refl _ _, good_clip, fun h => absurd h (by decide), ?_⟩
  have hk_144 := KeepP.clip (fun _ => false) (setC g_135 10 (clipC w_131 col_133)) w_140
  refine xuF (v := (.bool r_114.2.2)) rfl rfl (fun _ => r_assign rfl) ?_
  refine xnilF ?_
  replace h0_0 := (((((h0_0.gr hg_132).kpp hk_134).gr hC).kpp hk_139).kp hk_141).kpp hk_144
  replace h0_2 := (((((h0_2.gr hg_132).kpp hk_134).gr hC).kpp hk_139).kp hk_141).kpp hk_144
  replace h0_4 := (((((h0_4.gr hg_132).kpp hk_134).gr hC).kpp hk_139).kp hk_141).kpp hk_144
  replace h0_6 := (((((h0_6.gr hg_132).kpp hk_134).gr hC).kpp hk_139).kp hk_141).kpp hk_144
  replace rh_14 := (((((rh_14.gr hg_132).kpp hk_134).gr hC).kpp hk_139).kp hk_141).kpp hk_144
  replace rh_118 := ((((rh_118.kpp hk_134).gr hC).kpp hk_139).kp hk_141).kpp hk_144
  replace h_56 := (((h_56.gr hC).kpp hk_139).kp hk_141).kpp hk_144
  replace h_60 := (((h_60.gr hC).kpp hk_139).kp hk_141).kpp hk_144
  replace h_65 := (((h_65.gr hC).kpp hk_139).kp hk_141).kpp hk_144
  replace h_69 := (((h_69.gr hC).kpp hk_139).kp hk_141).kpp hk_144
  replace hb_48 := (((hb_48.gr hC).kpp hk_139).kp hk_141).kpp hk_144
  replace hb_5 := (((hb_5.gr hC).kpp hk_139).kp hk_141).kpp hk_144
  replace hst := (((hst.grow hC).kpp hk_139).kp hk_141 hs_142).kpp hk_144
  intro w_145 hC
  replace hC : Grow (clipC w_140 (setC g_135 10 (clipC w_131 col_133))) w_140 (clipC w_140 (setC g_135 10 (clipC w_131 col_133))) w_145 := .of_below hC.below
  refine wS (wR ?_)
  refine lM (.bool r_114.2.2) ?_
  refine lN ?_
  replace h_56 := h_56.gr hC
  replace h_60 := h_60.gr hC
  replace h_65 := h_65.gr hC
  replace h_69 := h_69.gr hC
  replace h0_0 := h0_0.gr hC
  replace h0_2 := h0_2.gr hC
  replace h0_4 := h0_4.gr hC
  replace h0_6 := h0_6.gr hC
  replace rh_14 := rh_14.gr hC
  replace rh_118 := rh_118.gr hC
  replace hb_48 := hb_48.gr hC
  replace hb_5 := hb_5.gr hC
  replace hst := hst.grow hC
  refine wcond (r_114.2.2) rfl (fun hb => ?_) (fun hb => ?_)
  ·rw [if_pos hb] at hm
   clear hb
   refine wS (wR ?_)
   refine lM (.slice ra_116 r_114.1.length rc_117) ?_
   refine lM (.int .i64 i_70) ?_
   refine lA (.slice ra_116 r_114.1.length rc_117) ?_
   refine lA (.int .i64 i_70) ?_
   refine lA (.int .i64 0) ?_
   refine lN ?_
   refine wret ?_
   cases hm
   exact ⟨rfl, colF w0.heap.size col (clipC w_140 (setC g_135 10 (clipC w_131 col_133))) (fun n => bif Nat.beq n 9 then c1 else 0), ra_116, rc_117, rfl, hst.fin (fun n => bif Nat.beq n 9 then c1 else 0), hst.finOwn (g := (fun n => bif Nat.beq n 9 then c1 else 0)) rfl rh_118 (by decide) (by decide) rfl⟩
  rw [if_neg (by rw [hb]; decide)] at hm
  clear hb
  refine wK (wS ?_)
  refine Wp.cut (fun f w_146 => ∃ (col_147 : Col), m_code_Decode_J2 N p1_bits s_52 s_53 s_57 s_61 s_62 s_66 i_70 (m_code_Decode_L1 N p0_n p1_bits r_10 n_49)  = some r ∧ St w0 (col0 col) col_147 w_146 ∧ Sl (Rep.int .u32) col_147 w_146 a_54 cap_55 s_53 ∧ Sl (Rep.int .u32) col_147 w_146 a_58 cap_59 s_57 ∧ Sl (Rep.int .u32) col_147 w_146 a_63 cap_64 s_62 ∧ Sl (Rep.int .u32) col_147 w_146 a_67 cap_68 s_66 ∧ Box 62 7 col_147 w_146 g_40 #[(.bool s_52), (.slice a_54 s_53.length cap_55), (.slice a_58 s_57.length cap_59), (.bool s_61), (.slice a_63 s_62.length cap_64), (.slice a_67 s_66.length cap_68)] ∧ Sl Rep.str col_147 w_146 a0_0 cap0_0 p0_n.2.1 ∧ Sl (Rep.slice Rep.str) col_147 w_146 a0_2 cap0_2 p0_n.2.2.1 ∧ Sl (Rep.slice (Rep.int .i64)) col_147 w_146 a0_4 cap0_4 p0_n.2.2.2.1 ∧ Sl (Rep.slice (Rep.pair (Rep.pair Rep.bool (Rep.slice (Rep.int .u32))) (Rep.slice (Rep.int .u32)))) col_147 w_146 a0_6 cap0_6 p0_n.2.2.2.2 ∧ Box 28 1 col_147 w_146 g_1 #[(.string p0_n.1), (.slice a0_0 p0_n.2.1.length cap0_0), (.slice a0_2 p0_n.2.2.1.length cap0_2), (.slice a0_4 p0_n.2.2.2.1.length cap0_4), (.slice a0_6 p0_n.2.2.2.2.length cap0_6)] ∧ Sl (Rep.int .i64) col_147 w_146 ra_12 rc_13 r_10.1 ∧ f 1 = (.string p1_bits) ∧ f 10 = (.pointer (some ⟨g_40, 0, none⟩)) ∧ f 11 = (.int .i64 i_70) ∧ f 2 = (.pointer (some ⟨g_1, 0, none⟩)) ∧ f 8 = (.slice ra_12 r_10.1.length rc_13) ∧ f 1000000 = (enc [])) ?_ ?_
  ·intro f w_146 hJ
   obtain ⟨col_147, hm, hst, h_56, h_60, h_65, h_69, hb_48, h0_0, h0_2, h0_4, h0_6, hb_5, rh_14, hs1, hs10, hs11, hs2, hs8, hs1000000⟩ := hJ
   rw [m_code_Decode_J2.eq_1] at hm
   refine .lD 1 hs1 ?_
   refine .lD 10 hs10 ?_
   refine .lD 11 hs11 ?_
   refine .lD 2 hs2 ?_
   refine .lD 8 hs8 ?_
   refine .lD 1000000 hs1000000 ?_
   clear hs1 hs10 hs11 hs2 hs8 hs1000000
   refine wmix (col := col_147) [(0, 0), (1, 1), (2, 1), (3, 0), (4, 1), (5, 3), (6, 2)] (by kernel_rfl) (by kernel_rfl) ?_
   refine xv (v := (.agg #[(.bool s_52), (.slice a_54 s_53.length cap_55), (.slice a_58 s_57.length cap_59), (.bool s_61), (.slice a_63 s_62.length cap_64), (.slice a_67 s_66.length cap_68)])) rfl rfl (fun _ hC => r_ldN Tryz.isAgg62 Tryz.sizeOf62 rfl rfl (hb_48.atN.gr (Grow.of_below (col := col_147) hC.below))) ?_
   refine xu (v := (.string p1_bits)) rfl rfl (fun _ => r_move rfl) ?_
   refine xu (v := (.int .i64 i_70)) rfl rfl (fun _ => r_move rfl) ?_
   obtain ⟨e_148, hj_149, hm⟩ := bS hm
   refine xv (v := (.int .u8 e_148)) rfl rfl (fun _ hC => r_indexS (s := p1_bits) Tryz.underlying9 rfl rfl hj_149) ?_
   refine xu (v := (.bool (decide (e_148 = 49)))) rfl rfl (fun _ => r_eql e_148 49 rfl rfl) ?_
   refine xe rfl rfl ?_
   intro w_150 hC0
   have hC : Grow col_147 w_146 col_147 w_150 := .of_below hC0.below
   obtain ⟨r_151, hr_152, hm⟩ := bS hm
   replace h_56 := h_56.gr hC
   replace h_60 := h_60.gr hC
   replace h_65 := h_65.gr hC
   replace h_69 := h_69.gr hC
   refine lc rfl rfl (r_call2 Tryz.call73 rfl rfl) (c_code_half N col_147 _ a_54 cap_55 a_58 cap_59 a_63 cap_64 a_67 cap_68 (((s_52, s_53), s_57), ((s_61, s_62), s_66)) (decide (e_148 = 49)) h_56 h_60 h_65 h_69 r_151 hr_152) ?_
   rintro _ w_165 ⟨col_167, ra_153, rc_154, ra_156, rc_157, ra_159, rc_160, ra_162, rc_163, rfl, hg_166, rh_155, rh_158, rh_161, rh_164⟩
   refine ⟨_, rfl, ?_⟩
   refine lN ⟨fun w' => Grow col_167 w_165 col_167 w', Grow.refl _ _, fun _ _ h => cls hC0 hg_166 h, ?_⟩
   refine xe rfl rfl ?_
   intro w_168 hC0
   replace h0_0 := (h0_0.gr hC).gr hg_166
   replace h0_2 := (h0_2.gr hC).gr hg_166
   replace h0_4 := (h0_4.gr hC).gr hg_166
   replace h0_6 := (h0_6.gr hC).gr hg_166
   replace rh_14 := (rh_14.gr hC).gr hg_166
   replace hb_48 := (hb_48.gr hC).gr hg_166
   replace hb_5 := (hb_5.gr hC).gr hg_166
   replace hst := (hst.grow hC).grow hg_166
   have hC : Grow col_167 w_165 col_167 w_168 := .of_below hC0.below
   replace hb_48 := hb_48.gr hC
   refine l_bstore (v := (.agg #[(.bool r_151.1.1.1), (.slice ra_153 r_151.1.1.2.length rc_154), (.slice ra_156 r_151.1.2.length rc_157), (.bool r_151.2.1.1), (.slice ra_159 r_151.2.1.2.length rc_160), (.slice ra_162 r_151.2.2.length rc_163)])) hb_48 Tryz.sizeOf62 rfl rfl (by intro u hu; simp only [Value.cells, List.mem_cons, List.not_mem_nil, or_false] at hu; rcases hu with rfl | rfl | rfl | rfl | rfl | rfl <;> rfl) rfl rfl ?_
   intro w_169 hk_170 hs_171 hb_172
   clear hb_48
   replace hb_172 : Box 62 7 col_167 w_169 g_40 #[(.bool r_151.1.1.1), (.slice ra_153 r_151.1.1.2.length rc_154), (.slice ra_156 r_151.1.2.length rc_157), (.bool r_151.2.1.1), (.slice ra_159 r_151.2.1.2.length rc_160), (.slice ra_162 r_151.2.2.length rc_163)] := hb_172
   refine lN ⟨fun w' => Grow col_167 w_169 col_167 w', Grow.refl _ _, fun h => absurd h (by decide), ?_⟩
   refine xnil ?_
   replace h0_0 := (h0_0.gr hC).kp hk_170
   replace h0_2 := (h0_2.gr hC).kp hk_170
   replace h0_4 := (h0_4.gr hC).kp hk_170
   replace h0_6 := (h0_6.gr hC).kp hk_170
   replace rh_14 := (rh_14.gr hC).kp hk_170
   replace rh_155 := (rh_155.gr hC).kp hk_170
   replace rh_158 := (rh_158.gr hC).kp hk_170
   replace rh_161 := (rh_161.gr hC).kp hk_170
   replace rh_164 := (rh_164.gr hC).kp hk_170
   replace hb_5 := (hb_5.gr hC).kp hk_170
   replace hst := (hst.grow hC).kp hk_170 hs_171
   intro w_173 hC
   replace hC : Grow col_167 w_169 col_167 w_173 := .of_below hC.below
   replace rh_155 := rh_155.gr hC
   replace rh_158 := rh_158.gr hC
   replace rh_161 := rh_161.gr hC
   replace rh_164 := rh_164.gr hC
   replace h0_0 := h0_0.gr hC
   replace h0_2 := h0_2.gr hC
   replace h0_4 := h0_4.gr hC
   replace h0_6 := h0_6.gr hC
   replace rh_14 := rh_14.gr hC
   replace hb_172 := hb_172.gr hC
   replace hb_5 := hb_5.gr hC
   replace hst := hst.grow hC
   exact ⟨col_167, r_151.1.1.1, ra_153, rc_154, r_151.1.1.2, ra_156, rc_157, r_151.1.2, r_151.2.1.1, ra_159, rc_160, r_151.2.1.2, ra_162, rc_163, r_151.2.2, hm, hst, rh_155, rh_158, rh_161, rh_164, hb_172, h0_0, h0_2, h0_4, h0_6, hb_5, rh_14, rfl, rfl, rfl, rfl, rfl, rfl⟩
  refine wS ?_
  refine Wp.cut (fun f w_186 => ∃ (col_187 : Col) (v_188 : Bool), m_code_Decode_J3 N p1_bits s_52 s_53 s_57 s_61 s_62 s_66 i_70 (m_code_Decode_L1 N p0_n p1_bits r_10 n_49) v_188 = some r ∧ St w0 (col0 col) col_187 w_186 ∧ Sl (Rep.int .u32) col_187 w_186 a_54 cap_55 s_53 ∧ Sl (Rep.int .u32) col_187 w_186 a_58 cap_59 s_57 ∧ Sl (Rep.int .u32) col_187 w_186 a_63 cap_64 s_62 ∧ Sl (Rep.int .u32) col_187 w_186 a_67 cap_68 s_66 ∧ Box 62 7 col_187 w_186 g_40 #[(.bool s_52), (.slice a_54 s_53.length cap_55), (.slice a_58 s_57.length cap_59), (.bool s_61), (.slice a_63 s_62.length cap_64), (.slice a_67 s_66.length cap_68)] ∧ Sl Rep.str col_187 w_186 a0_0 cap0_0 p0_n.2.1 ∧ Sl (Rep.slice Rep.str) col_187 w_186 a0_2 cap0_2 p0_n.2.2.1 ∧ Sl (Rep.slice (Rep.int .i64)) col_187 w_186 a0_4 cap0_4 p0_n.2.2.2.1 ∧ Sl (Rep.slice (Rep.pair (Rep.pair Rep.bool (Rep.slice (Rep.int .u32))) (Rep.slice (Rep.int .u32)))) col_187 w_186 a0_6 cap0_6 p0_n.2.2.2.2 ∧ Box 28 1 col_187 w_186 g_1 #[(.string p0_n.1), (.slice a0_0 p0_n.2.1.length cap0_0), (.slice a0_2 p0_n.2.2.1.length cap0_2), (.slice a0_4 p0_n.2.2.2.1.length cap0_4), (.slice a0_6 p0_n.2.2.2.2.length cap0_6)] ∧ Sl (Rep.int .i64) col_187 w_186 ra_12 rc_13 r_10.1 ∧ f 1 = (.string p1_bits) ∧ f 10 = (.pointer (some ⟨g_40, 0, none⟩)) ∧ f 11 = (.int .i64 i_70) ∧ f 2 = (.pointer (some ⟨g_1, 0, none⟩)) ∧ f 58 = (.bool v_188) ∧ f 8 = (.slice ra_12 r_10.1.length rc_13) ∧ f 1000000 = (enc [])) ?_ ?_
  ·intro f w_186 hJ
   obtain ⟨col_187, v_188, hm, hst, h_56, h_60, h_65, h_69, hb_48, h0_0, h0_2, h0_4, h0_6, hb_5, rh_14, hs1, hs10, hs11, hs2, hs58, hs8, hs1000000⟩ := hJ
   rw [m_code_Decode_J3.eq_1] at hm
   refine .lD 1 hs1 ?_
   refine .lD 10 hs10 ?_
   refine .lD 11 hs11 ?_
   refine .lD 2 hs2 ?_
   refine .lD 58 hs58 ?_
   refine .lD 8 hs8 ?_
   refine .lD 1000000 hs1000000 ?_
   clear hs1 hs10 hs11 hs2 hs58 hs8 hs1000000
   refine wcond (v_188) rfl (fun hb => ?_) (fun hb => ?_)
   ·rw [if_pos hb] at hm
    clear hb
    cases hm
   rw [if_neg (by rw [hb]; decide)] at hm
   clear hb
   refine wK ?_
   exact ⟨col_187, hm, hst, h_56, h_60, h_65, h_69, hb_48, h0_0, h0_2, h0_4, h0_6, hb_5, rh_14, rfl, rfl, rfl, rfl, rfl, rfl⟩
  refine wR ?_
  refine lM (.int .i64 i_70) ?_
  refine lM (.string p1_bits) ?_
  refine lV (.int .i64 (p1_bits.size : Int)) (r_lenS Tryz.underlying9 rfl) ?_
  refine lV (.bool (decide (i_70 = (p1_bits.size : Int)))) (r_eql i_70 (p1_bits.size : Int) rfl rfl) ?_
  refine lM (.bool (decide (i_70 = (p1_bits.size : Int)))) ?_
  by_cases hg_189 : (decide (i_70 = (p1_bits.size : Int))) = true
  ·rw [if_pos hg_189] at hm
   refine lp (b := decide (i_70 = (p1_bits.size : Int))) 47 rfl rfl rfl rfl (by rw [hg_189]; rfl) ?_
   refine lp (b := decide (i_70 = (p1_bits.size : Int))) 47 rfl rfl rfl rfl (by rw [hg_189]; rfl) ?_
   refine lp (b := decide (i_70 = (p1_bits.size : Int))) 47 rfl rfl rfl rfl (by rw [hg_189]; rfl) ?_
   refine lp (b := decide (i_70 = (p1_bits.size : Int))) 47 rfl rfl rfl rfl (by rw [hg_189]; rfl) ?_
   refine lp (b := decide (i_70 = (p1_bits.size : Int))) 47 rfl rfl rfl rfl (by rw [hg_189]; rfl) ?_
   refine lpU 52 rfl rfl rfl rfl ?_
   refine lpU 52 rfl rfl rfl rfl ?_
   refine lpU 52 rfl rfl rfl rfl ?_
   refine lpU 52 rfl rfl rfl rfl ?_
   refine lp (b := decide (i_70 = (p1_bits.size : Int))) 47 rfl rfl rfl rfl (by rw [hg_189]; rfl) ?_
   refine lV (.bool true) (r_pickT (congrArg Value.bool hg_189) rfl) ?_
   refine lN ?_
   exact ⟨(clipC w_140 (setC g_135 10 (clipC w_131 col_133))), true, hm, hst, h_56, h_60, h_65, h_69, hb_48, h0_0, h0_2, h0_4, h0_6, hb_5, rh_14, rfl, rfl, rfl, rfl, rfl, rfl, rfl⟩
  rw [if_neg hg_189] at hm
  replace hg_189 := Bool.eq_false_iff.2 hg_189
  refine lg (b := decide (i_70 = (p1_bits.size : Int))) 47 rfl rfl rfl (by rw [hg_189]; rfl) ?_
  refine lM (.string p1_bits) ?_
  refine lg (b := decide (i_70 = (p1_bits.size : Int))) 47 rfl rfl rfl (by rw [hg_189]; rfl) ?_
  refine lM (.int .i64 i_70) ?_
  refine lg (b := decide (i_70 = (p1_bits.size : Int))) 47 rfl rfl rfl (by rw [hg_189]; rfl) ?_
  obtain ⟨e_190, hj_191, hm⟩ := bS hm
  refine lV (.int .u8 e_190) (r_indexS (s := p1_bits) Tryz.underlying9 rfl rfl hj_191) ?_
  refine lg (b := decide (i_70 = (p1_bits.size : Int))) 47 rfl rfl rfl (by rw [hg_189]; rfl) ?_
  refine lV (.bool (!decide (e_190 = 48))) (r_neq e_190 48 rfl rfl) ?_
  refine lg (b := decide (i_70 = (p1_bits.size : Int))) 47 rfl rfl rfl (by rw [hg_189]; rfl) ?_
  refine lM (.bool (!decide (e_190 = 48))) ?_
  by_cases hg_192 : (!decide (e_190 = 48)) = true
  ·rw [if_pos hg_192] at hm
   refine lg (b := !decide (e_190 = 48)) 52 rfl rfl rfl (by rw [hg_192]; rfl) ?_
   refine lM (.string p1_bits) ?_
   refine lg (b := !decide (e_190 = 48)) 52 rfl rfl rfl (by rw [hg_192]; rfl) ?_
   refine lM (.int .i64 i_70) ?_
   refine lg (b := !decide (e_190 = 48)) 52 rfl rfl rfl (by rw [hg_192]; rfl) ?_
   obtain ⟨e_193, hj_194, hm⟩ := bS hm
   refine lV (.int .u8 e_193) (r_indexS (s := p1_bits) Tryz.underlying9 rfl rfl hj_194) ?_
   refine lg (b := !decide (e_190 = 48)) 52 rfl rfl rfl (by rw [hg_192]; rfl) ?_
   refine lV (.bool (!decide (e_193 = 49))) (r_neq e_193 49 rfl rfl) ?_
   refine lg (b := decide (i_70 = (p1_bits.size : Int))) 47 rfl rfl rfl (by rw [hg_189]; rfl) ?_
   refine lV (.bool (!decide (e_193 = 49))) (r_pickT (congrArg Value.bool hg_192) rfl) ?_
   refine lV (.bool (!decide (e_193 = 49))) (r_pickF (congrArg Value.bool hg_189) rfl) ?_
   refine lN ?_
   exact ⟨(clipC w_140 (setC g_135 10 (clipC w_131 col_133))), (!decide (e_193 = 49)), hm, hst, h_56, h_60, h_65, h_69, hb_48, h0_0, h0_2, h0_4, h0_6, hb_5, rh_14, rfl, rfl, rfl, rfl, rfl, rfl, rfl⟩
  rw [if_neg hg_192] at hm
  replace hg_192 := Bool.eq_false_iff.2 hg_192
  refine lp (b := !decide (e_190 = 48)) 52 rfl rfl rfl rfl (by rw [hg_192]; rfl) ?_
  refine lp (b := !decide (e_190 = 48)) 52 rfl rfl rfl rfl (by rw [hg_192]; rfl) ?_
  refine lp (b := !decide (e_190 = 48)) 52 rfl rfl rfl rfl (by rw [hg_192]; rfl) ?_
  refine lp (b := !decide (e_190 = 48)) 52 rfl rfl rfl rfl (by rw [hg_192]; rfl) ?_
  refine lg (b := decide (i_70 = (p1_bits.size : Int))) 47 rfl rfl rfl (by rw [hg_189]; rfl) ?_
  refine lV (.bool false) (r_pickF (congrArg Value.bool hg_192) rfl) ?_
  refine lV (.bool false) (r_pickF (congrArg Value.bool hg_189) rfl) ?_
  refine lN ?_
  exact ⟨(clipC w_140 (setC g_135 10 (clipC w_131 col_133))), false, hm, hst, h_56, h_60, h_65, h_69, hb_48, h0_0, h0_2, h0_4, h0_6, hb_5, rh_14, rfl, rfl, rfl, rfl, rfl, rfl, rfl⟩
def m_r20_SameInts_L1 (N : Nat) (p0_a : (List Int)) (p1_b : (List Int)) : Nat → Int → Option Bool
  | 0, _ => none
  | n_1 + 1, i_4 => if (decide (i_4 < (p0_a.length : Int))) = true then ((at? p0_a i_4).bind fun e_5 => (at? p1_b i_4).bind fun e_7 => if (!decide (e_5 = e_7)) = true then none else ((m_r20_SameInts_L1 N p0_a p1_b n_1) (IntKind.i64.wrap (i_4 + 1)))) else (some true)
termination_by structural x => x
def m_r20_SameInts (N : Nat) (p0_a : (List Int)) (p1_b : (List Int)) : Option Bool :=
  if (!decide ((p0_a.length : Int) = (p1_b.length : Int))) = true then none else (m_r20_SameInts_L1 N p0_a p1_b N 0)
theorem c_r20_SameInts (N : Nat) (col : Col) (w0 : World) (a0 : Option Addr) (cap0 : Nat) (p0_a : (List Int)) (a1 : Option Addr) (cap1 : Nat) (p1_b : (List Int)) (h0 : Sl (Rep.int .i64) col w0 a0 cap0 p0_a) (h1 : Sl (Rep.int .i64) col w0 a1 cap1 p1_b) (r : Bool) (hm : m_r20_SameInts N p0_a p1_b = some r) :
    Calls Tryz.prog 22 #[(.slice a0 p0_a.length cap0), (.slice a1 p1_b.length cap1)] w0 (fun e w' => e = .returned ((.bool r)) ∧ Below w0.heap.size w0 w') := by
 refine calls_of1 4 (m := 26) (args := [(.slice a0 p0_a.length cap0), (.slice a1 p1_b.length cap1)]) Tryz.func22 rfl rfl rfl rfl rfl ?_
 rw [m_r20_SameInts.eq_1] at hm
 have hst := St.start col w0
 refine wS (wR ?_)
 refine lA (.bool false) ?_
 refine lN (wS (wS (wR ?_)))
 refine lM (.slice a0 p0_a.length cap0) ?_
 refine lV (.int .i64 (p0_a.length : Int)) (r_len Tryz.underlying33 rfl) ?_
 refine lM (.slice a1 p1_b.length cap1) ?_
 refine lV (.int .i64 (p1_b.length : Int)) (r_len Tryz.underlying33 rfl) ?_
 refine lV (.bool (!decide ((p0_a.length : Int) = (p1_b.length : Int)))) (r_neq (p0_a.length : Int) (p1_b.length : Int) rfl rfl) ?_
 refine lN ?_
 replace h0 := h0.keep (Stay.start col w0)
 replace h1 := h1.keep (Stay.start col w0)
 refine wcond (!decide ((p0_a.length : Int) = (p1_b.length : Int))) rfl (fun hb => ?_) (fun hb => ?_)
 ·rw [if_pos hb] at hm
  clear hb
  cases hm
 rw [if_neg (by rw [hb]; decide)] at hm
 clear hb
 refine wK (wS (wS (wR ?_)))
 refine lA (.int .i64 0) ?_
 refine lN (wB ?_)
 refine wloop (fun n f w_2 => ∃ (col_3 : Col) (i_4 : Int) (n_1 : Nat), n_1 = n ∧ m_r20_SameInts_L1 N p0_a p1_b n_1 i_4 = some r ∧ St w0 (col0 col) col_3 w_2 ∧ Sl (Rep.int .i64) col_3 w_2 a0 cap0 p0_a ∧ Sl (Rep.int .i64) col_3 w_2 a1 cap1 p1_b ∧ f 0 = (.slice a0 p0_a.length cap0) ∧ f 1 = (.slice a1 p1_b.length cap1) ∧ f 5 = (.int .i64 i_4) ∧ f 1000000 = (enc [])) N ⟨(col0 col), 0, N, rfl, hm, hst, h0, h1, rfl, rfl, rfl, rfl⟩ ?_
 clear hm; intro n f w_2 hI
 obtain ⟨col_3, i_4, n_1, hn, hm, hst, h0, h1, hs0, hs1, hs5, hs1000000⟩ := hI
 subst hn
 refine .lD 0 hs0 ?_
 refine .lD 1 hs1 ?_
 refine .lD 5 hs5 ?_
 refine .lD 1000000 hs1000000 ?_
 clear hs0 hs1 hs5 hs1000000
 cases n_1 with
 | zero => rw [m_r20_SameInts_L1.eq_1] at hm; cases hm
 | succ n_1 =>
  rw [m_r20_SameInts_L1.eq_2] at hm
  refine wS (wS (wR ?_))
  refine lM (.int .i64 i_4) ?_
  refine lM (.slice a0 p0_a.length cap0) ?_
  refine lV (.int .i64 (p0_a.length : Int)) (r_len Tryz.underlying33 rfl) ?_
  refine lV (.bool (decide (i_4 < (p0_a.length : Int)))) (r_lss i_4 (p0_a.length : Int) rfl rfl) ?_
  refine lN ?_
  refine wcond (decide (i_4 < (p0_a.length : Int))) rfl (fun hb => ?_) (fun hb => ?_)
  ·rw [if_pos hb] at hm
   clear hb
   refine wK (wS (wB (wS ?_)))
   refine wquiet (col := col_3) (by kernel_rfl) (by kernel_rfl) ?_
   refine qv (v := (.slice a0 p0_a.length cap0)) rfl (fun _ hC => r_move rfl) ?_
   refine qv (v := (.int .i64 i_4)) rfl (fun _ hC => r_move rfl) ?_
   obtain ⟨e_5, hj_6, hm⟩ := bS hm
   refine qv (v := (sptr a0 (Int.toNat i_4 * 1))) rfl (fun _ hC => r_idx Tryz.underlying33 Tryz.sizeOf3 rfl rfl (at?_some hj_6).1 (at?_some hj_6).2.1 (h0.addr hj_6)) ?_
   refine qv (v := (.int .i64 e_5)) rfl (fun _ hC => r_ld Tryz.isAgg3 rfl ((h0.gr (Grow.of_below (col := col_3) hC.below)).atInt hj_6)) ?_
   refine qv (v := (.slice a1 p1_b.length cap1)) rfl (fun _ hC => r_move rfl) ?_
   refine qv (v := (.int .i64 i_4)) rfl (fun _ hC => r_move rfl) ?_
   obtain ⟨e_7, hj_8, hm⟩ := bS hm
   refine qv (v := (sptr a1 (Int.toNat i_4 * 1))) rfl (fun _ hC => r_idx Tryz.underlying33 Tryz.sizeOf3 rfl rfl (at?_some hj_8).1 (at?_some hj_8).2.1 (h1.addr hj_8)) ?_
   refine qv (v := (.int .i64 e_7)) rfl (fun _ hC => r_ld Tryz.isAgg3 rfl ((h1.gr (Grow.of_below (col := col_3) hC.below)).atInt hj_8)) ?_
   refine qv (v := (.bool (!decide (e_5 = e_7)))) rfl (fun _ hC => r_neq e_5 e_7 rfl rfl) ?_
   refine qnil ?_
   intro w_9 hC
   replace hC : Grow col_3 w_2 col_3 w_9 := .of_below hC.below
   replace h0 := h0.gr hC
   replace h1 := h1.gr hC
   replace hst := hst.grow hC
   refine wcond (!decide (e_5 = e_7)) rfl (fun hb => ?_) (fun hb => ?_)
   ·rw [if_pos hb] at hm
    clear hb
    cases hm
   rw [if_neg (by rw [hb]; decide)] at hm
   clear hb
   refine wK (wR ?_)
   refine lM (.int .i64 i_4) ?_
   refine lV (.int .i64 (IntKind.i64.wrap (i_4 + 1))) (r_add i_4 1 rfl rfl) ?_
   refine lA (.int .i64 (IntKind.i64.wrap (i_4 + 1))) ?_
   refine lN ?_
   exact ⟨n_1, by omega, ⟨col_3, (IntKind.i64.wrap (i_4 + 1)), n_1, rfl, hm, hst, h0, h1, rfl, rfl, rfl, rfl⟩⟩
  rw [if_neg (by rw [hb]; decide)] at hm
  clear hb
  refine wexit (inB_hit ?_)
  refine wS (wR ?_)
  refine lA (.bool true) ?_
  refine lN ?_
  refine wret ?_
  cases hm
  exact ⟨rfl, rfl, hst.below⟩
def m_nat_trim_v0h_J1 (a_4 : List Int) (kk_L1 : ((List Int) → Option (List Int))) (v_16 : Bool) : Option (List Int) :=
  if v_16 = true then (chk ((0 : Int) ≤ (IntKind.i64.wrap ((a_4.length : Int) - 1)) ∧ (IntKind.i64.wrap ((a_4.length : Int) - 1)) ≤ (a_4.length : Int)) (kk_L1 (a_4.take (Int.toNat (IntKind.i64.wrap ((a_4.length : Int) - 1)))))) else (some a_4)
def m_nat_trim_v0h_L1 (N : Nat)  : Nat → (List Int) → Option (List Int)
  | 0, _ => none
  | n_1 + 1, a_4 => if (decide (0 < (a_4.length : Int))) = true then ((at? a_4 (IntKind.i64.wrap ((a_4.length : Int) - 1))).bind fun e_19 => m_nat_trim_v0h_J1 a_4 (m_nat_trim_v0h_L1 N n_1) (decide (e_19 = 0))) else (m_nat_trim_v0h_J1 a_4 (m_nat_trim_v0h_L1 N n_1) false)
termination_by structural x => x
def m_nat_trim_v0h (N : Nat) (p0_a : (List Int)) : Option (List Int) :=
  m_nat_trim_v0h_L1 N N p0_a
theorem c_nat_trim_v0h (N : Nat) (col : Col) (w0 : World) (qc0 : Nat) (hd : dstB [qc0] = true) (a0 : Option Addr) (cap0 : Nat) (p0_a : (List Int)) (h0 : Own (Rep.int .u32) 114 qc0 col w0 a0 cap0 p0_a) (r : (List Int)) (hm : m_nat_trim_v0h N p0_a = some r) :
    Calls Tryz.prog 88 #[(.slice a0 p0_a.length cap0)] w0 (fun e w' => ∃ (col' : Col) (ra1 : Option Addr) (rc2 : Nat), e = .returned ((.slice ra1 r.length rc2)) ∧ KeepP (pS [qc0]) col w0 col' w' ∧ Own (Rep.int .u32) 114 qc0 col' w' ra1 rc2 r) := by
 refine calls_of1 2 (m := 21) (args := [(.slice a0 p0_a.length cap0)]) Tryz.func88 rfl rfl rfl rfl rfl ?_
 rw [m_nat_trim_v0h.eq_1] at hm
 have hst := St.startL (l := [qc0]) rfl col w0
 replace h0 := h0.startL (dst_nz hd 0 rfl) (dst_ix hd 0 rfl)
 refine wS (wR ?_)
 refine lA (.slice none (([] : List Int).length) 0) ?_
 refine lN (wS (wB ?_))
 refine wloop (fun n f w_2 => ∃ (col_3 : Col) (a_5 : Option Addr) (cap_6 : Nat) (a_4 : List Int) (n_1 : Nat), n_1 = n ∧ m_nat_trim_v0h_L1 N n_1 a_4 = some r ∧ St w0 (colL [qc0] col) col_3 w_2 ∧ Own (Rep.int .u32) 114 440 col_3 w_2 a_5 cap_6 a_4 ∧ f 0 = (.slice a_5 a_4.length cap_6) ∧ f 1000000 = (enc [])) N ⟨(colL [qc0] col), a0, cap0, p0_a, N, rfl, hm, hst, h0, rfl, rfl⟩ ?_
 clear hm; intro n f w_2 hI
 obtain ⟨col_3, a_5, cap_6, a_4, n_1, hn, hm, hst, h_7, hs0, hs1000000⟩ := hI
 subst hn
 refine .lD 0 hs0 ?_
 refine .lD 1000000 hs1000000 ?_
 clear hs0 hs1000000
 cases n_1 with
 | zero => rw [m_nat_trim_v0h_L1.eq_1] at hm; cases hm
 | succ n_1 =>
  rw [m_nat_trim_v0h_L1.eq_2] at hm
  refine wS (wS ?_)
  refine Wp.cut (fun f w_14 => ∃ (col_15 : Col) (v_16 : Bool), m_nat_trim_v0h_J1 a_4 (m_nat_trim_v0h_L1 N n_1) v_16 = some r ∧ St w0 (colL [qc0] col) col_15 w_14 ∧ Own (Rep.int .u32) 114 440 col_15 w_14 a_5 cap_6 a_4 ∧ f 0 = (.slice a_5 a_4.length cap_6) ∧ f 14 = (.bool v_16) ∧ f 1000000 = (enc [])) ?_ ?_
  ·intro f w_14 hJ
   obtain ⟨col_15, v_16, hm, hst, h_7, hs0, hs14, hs1000000⟩ := hJ
   rw [m_nat_trim_v0h_J1.eq_1] at hm
   refine .lD 0 hs0 ?_
   refine .lD 14 hs14 ?_
   refine .lD 1000000 hs1000000 ?_
   clear hs0 hs14 hs1000000
   refine wcond (v_16) rfl (fun hb => ?_) (fun hb => ?_)
   ·rw [if_pos hb] at hm
    clear hb
    refine wK (wB (wR ?_))
    refine lM (.slice a_5 a_4.length cap_6) ?_
    refine lM (.slice a_5 a_4.length cap_6) ?_
    refine lV (.int .i64 (a_4.length : Int)) (r_len Tryz.underlying36 rfl) ?_
    refine lV (.int .i64 (IntKind.i64.wrap ((a_4.length : Int) - 1))) (r_sub (a_4.length : Int) 1 rfl rfl) ?_
    obtain ⟨hb_17, hm⟩ := cS hm
    refine lv (v := .slice a_5 (Int.toNat (IntKind.i64.wrap ((a_4.length : Int) - 1))) cap_6) rfl rfl (r_sliceH Tryz.underlying36 Tryz.sizeOf114 rfl rfl hb_17.1 (by have := h_7.lecap; have := hb_17.2; omega)) ?_
    refine .ld (d := 19) (v := (.slice a_5 ((a_4.take (Int.toNat (IntKind.i64.wrap ((a_4.length : Int) - 1)))).length) cap_6)) (congrArg (fun n => Value.slice a_5 n cap_6) (List.length_take_of_le (show (Int.toNat (IntKind.i64.wrap ((a_4.length : Int) - 1))) ≤ a_4.length by have := hb_17.2; omega)).symm) ?_
    refine lA (.slice a_5 ((a_4.take (Int.toNat (IntKind.i64.wrap ((a_4.length : Int) - 1)))).length) cap_6) ?_
    refine lN ?_
    exact ⟨n_1, by omega, ⟨col_15, a_5, cap_6, (a_4.take (Int.toNat (IntKind.i64.wrap ((a_4.length : Int) - 1)))), n_1, rfl, hm, hst, (h_7.take (Int.toNat (IntKind.i64.wrap ((a_4.length : Int) - 1)))), rfl, rfl⟩⟩
   rw [if_neg (by rw [hb]; decide)] at hm
   clear hb
   refine wexit (inB_hit ?_)
   refine wS (wR ?_)
   refine lM (.slice a_5 a_4.length cap_6) ?_
   refine lA (.slice a_5 a_4.length cap_6) ?_
   refine lN ?_
   refine wret ?_
   cases hm
   exact ⟨rfl, colFL w0.heap.size [qc0] col col_15 (fun n => bif Nat.beq n 440 then qc0 else 0), a_5, cap_6, rfl, hst.finL rfl (fun n => bif Nat.beq n 440 then qc0 else 0), hst.finOwnL (g := (fun n => bif Nat.beq n 440 then qc0 else 0)) rfl h_7 (by decide) (by decide) rfl⟩
  refine wR ?_
  refine lM (.slice a_5 a_4.length cap_6) ?_
  refine lV (.int .i64 (a_4.length : Int)) (r_len Tryz.underlying36 rfl) ?_
  refine lV (.bool (decide (0 < (a_4.length : Int)))) (r_gtr (a_4.length : Int) 0 rfl rfl) ?_
  refine lM (.bool (decide (0 < (a_4.length : Int)))) ?_
  by_cases hg_18 : (decide (0 < (a_4.length : Int))) = true
  ·rw [if_pos hg_18] at hm
   refine lg (b := decide (0 < (a_4.length : Int))) 6 rfl rfl rfl (by rw [hg_18]; rfl) ?_
   refine lM (.slice a_5 a_4.length cap_6) ?_
   refine lg (b := decide (0 < (a_4.length : Int))) 6 rfl rfl rfl (by rw [hg_18]; rfl) ?_
   refine lM (.slice a_5 a_4.length cap_6) ?_
   refine lg (b := decide (0 < (a_4.length : Int))) 6 rfl rfl rfl (by rw [hg_18]; rfl) ?_
   refine lV (.int .i64 (a_4.length : Int)) (r_len Tryz.underlying36 rfl) ?_
   refine lg (b := decide (0 < (a_4.length : Int))) 6 rfl rfl rfl (by rw [hg_18]; rfl) ?_
   refine lV (.int .i64 (IntKind.i64.wrap ((a_4.length : Int) - 1))) (r_sub (a_4.length : Int) 1 rfl rfl) ?_
   refine lg (b := decide (0 < (a_4.length : Int))) 6 rfl rfl rfl (by rw [hg_18]; rfl) ?_
   obtain ⟨e_19, hj_20, hm⟩ := bS hm
   refine lV (sptr a_5 (Int.toNat (IntKind.i64.wrap ((a_4.length : Int) - 1)) * 1)) (r_idx Tryz.underlying36 Tryz.sizeOf114 rfl rfl (at?_some hj_20).1 (at?_some hj_20).2.1 (h_7.addr hj_20)) ?_
   refine lg (b := decide (0 < (a_4.length : Int))) 6 rfl rfl rfl (by rw [hg_18]; rfl) ?_
   refine lV (.int .u32 e_19) (r_ld Tryz.isAgg114 rfl (h_7.atInt hj_20)) ?_
   refine lg (b := decide (0 < (a_4.length : Int))) 6 rfl rfl rfl (by rw [hg_18]; rfl) ?_
   refine lV (.bool (decide (e_19 = 0))) (r_eql e_19 0 rfl rfl) ?_
   refine lV (.bool (decide (e_19 = 0))) (r_pickT (congrArg Value.bool hg_18) rfl) ?_
   refine lN ?_
   exact ⟨col_3, (decide (e_19 = 0)), hm, hst, h_7, rfl, rfl, rfl⟩
  rw [if_neg hg_18] at hm
  replace hg_18 := Bool.eq_false_iff.2 hg_18
  refine lp (b := decide (0 < (a_4.length : Int))) 6 rfl rfl rfl rfl (by rw [hg_18]; rfl) ?_
  refine lp (b := decide (0 < (a_4.length : Int))) 6 rfl rfl rfl rfl (by rw [hg_18]; rfl) ?_
  refine lp (b := decide (0 < (a_4.length : Int))) 6 rfl rfl rfl rfl (by rw [hg_18]; rfl) ?_
  refine lp (b := decide (0 < (a_4.length : Int))) 6 rfl rfl rfl rfl (by rw [hg_18]; rfl) ?_
  refine lp (b := decide (0 < (a_4.length : Int))) 6 rfl rfl rfl rfl (by rw [hg_18]; rfl) ?_
  refine lp (b := decide (0 < (a_4.length : Int))) 6 rfl rfl rfl rfl (by rw [hg_18]; rfl) ?_
  refine lp (b := decide (0 < (a_4.length : Int))) 6 rfl rfl rfl rfl (by rw [hg_18]; rfl) ?_
  refine lV (.bool false) (r_pickF (congrArg Value.bool hg_18) rfl) ?_
  refine lN ?_
  exact ⟨col_3, false, hm, hst, h_7, rfl, rfl, rfl⟩
def m_slices_Reverse_byte_byte_L1 (N : Nat)  : Nat → (List Int) → Int → Int → Option (List Int)
  | 0, _, _, _ => none
  | n_1 + 1, s_4, i_7, j_8 => if (decide (i_7 < j_8)) = true then ((at? s_4 j_8).bind fun e_10 => (at? s_4 i_7).bind fun e_12 => (some (s_4.set (Int.toNat i_7) e_10)).bind fun xs_20 => (at? xs_20 j_8).bind fun e_22 => (some (xs_20.set (Int.toNat j_8) e_12)).bind fun xs_30 => (m_slices_Reverse_byte_byte_L1 N n_1) xs_30 (IntKind.i64.wrap (i_7 + 1)) (IntKind.i64.wrap (j_8 - 1))) else (some s_4)
termination_by structural x => x
def m_slices_Reverse_byte_byte (N : Nat) (p0_s : (List Int)) : Option (List Int) :=
  m_slices_Reverse_byte_byte_L1 N N p0_s 0 (IntKind.i64.wrap ((p0_s.length : Int) - 1))
theorem c_slices_Reverse_byte_byte (N : Nat) (col : Col) (w0 : World) (qc0 : Nat) (hd : dstB [qc0] = true) (a0 : Option Addr) (cap0 : Nat) (p0_s : (List Int)) (h0 : Own (Rep.int .u8) 5 qc0 col w0 a0 cap0 p0_s) (r : (List Int)) (hm : m_slices_Reverse_byte_byte N p0_s = some r) :
    Calls Tryz.prog 108 #[(.slice a0 p0_s.length cap0)] w0 (fun e w' => ∃ (col' : Col), e = .returned (.tuple #[]) ∧ KeepP (pS [qc0]) col w0 col' w' ∧ Own (Rep.int .u8) 5 qc0 col' w' a0 cap0 r ∧ r.length = p0_s.length) := by
 refine calls_of0  (m := 28) (args := [(.slice a0 p0_s.length cap0)]) Tryz.func108 rfl rfl rfl rfl ?_
 rw [m_slices_Reverse_byte_byte.eq_1] at hm
 have hst := St.startL (l := [qc0]) rfl col w0
 replace h0 := h0.startL (dst_nz hd 0 rfl) (dst_ix hd 0 rfl)
 refine wS (wR ?_)
 refine lM (.slice a0 p0_s.length cap0) ?_
 refine lV (.int .i64 (p0_s.length : Int)) (r_len Tryz.underlying150 rfl) ?_
 refine lV (.int .i64 (IntKind.i64.wrap ((p0_s.length : Int) - 1))) (r_sub (p0_s.length : Int) 1 rfl rfl) ?_
 refine lA (.int .i64 0) ?_
 refine lA (.int .i64 (IntKind.i64.wrap ((p0_s.length : Int) - 1))) ?_
 refine lN (wB ?_)
 refine wloop (fun n f w_2 => ∃ (col_3 : Col) (s_4 : List Int) (i_7 : Int) (j_8 : Int) (n_1 : Nat), n_1 = n ∧ m_slices_Reverse_byte_byte_L1 N n_1 s_4 i_7 j_8 = some r ∧ St w0 (colL [qc0] col) col_3 w_2 ∧ Own (Rep.int .u8) 5 440 col_3 w_2 a0 cap0 s_4 ∧ s_4.length = p0_s.length ∧ s_4.length = p0_s.length ∧ f 0 = (.slice a0 s_4.length cap0) ∧ f 2 = (.int .i64 i_7) ∧ f 3 = (.int .i64 j_8) ∧ f 1000000 = (enc [])) N ⟨(colL [qc0] col), p0_s, 0, (IntKind.i64.wrap ((p0_s.length : Int) - 1)), N, rfl, hm, hst, h0, rfl, rfl, rfl, rfl, rfl, rfl⟩ ?_
 clear hm; intro n f w_2 hI
 obtain ⟨col_3, s_4, i_7, j_8, n_1, hn, hm, hst, h_5, hlen_6, hlen_9, hs0, hs2, hs3, hs1000000⟩ := hI
 subst hn
 refine .lD 0 hs0 ?_
 refine .lD 2 hs2 ?_
 refine .lD 3 hs3 ?_
 refine .lD 1000000 hs1000000 ?_
 clear hs0 hs2 hs3 hs1000000
 cases n_1 with
 | zero => rw [m_slices_Reverse_byte_byte_L1.eq_1] at hm; cases hm
 | succ n_1 =>
  rw [m_slices_Reverse_byte_byte_L1.eq_2] at hm
  refine wS (wS (wR ?_))
  refine lM (.int .i64 i_7) ?_
  refine lM (.int .i64 j_8) ?_
  refine lV (.bool (decide (i_7 < j_8))) (r_lss i_7 j_8 rfl rfl) ?_
  refine lN ?_
  refine wcond (decide (i_7 < j_8)) rfl (fun hb => ?_) (fun hb => ?_)
  ·rw [if_pos hb] at hm
   clear hb
   refine wK (wS (wB ?_))
   refine wmix (col := col_3) [(0, 1), (1, 1), (2, 1), (3, 1), (4, 1), (5, 1), (6, 1), (7, 0), (8, 1), (9, 1), (10, 1), (11, 0), (12, 1), (13, 2), (14, 1), (15, 2)] (by kernel_rfl) (by kernel_rfl) ?_
   refine xu (v := (.slice a0 s_4.length cap0)) rfl rfl (fun _ => r_move rfl) ?_
   refine xu (v := (.int .i64 i_7)) rfl rfl (fun _ => r_move rfl) ?_
   refine xu (v := (.slice a0 s_4.length cap0)) rfl rfl (fun _ => r_move rfl) ?_
   refine xu (v := (.int .i64 j_8)) rfl rfl (fun _ => r_move rfl) ?_
   refine xu (v := (.slice a0 s_4.length cap0)) rfl rfl (fun _ => r_move rfl) ?_
   refine xu (v := (.int .i64 j_8)) rfl rfl (fun _ => r_move rfl) ?_
   obtain ⟨e_10, hj_11, hm⟩ := bS hm
   refine xu (v := (sptr a0 (Int.toNat j_8 * 1))) rfl rfl (fun _ => r_idx Tryz.underlying150 Tryz.sizeOf5 rfl rfl (at?_some hj_11).1 (at?_some hj_11).2.1 (h_5.addr hj_11)) ?_
   refine xv (v := (.int .u8 e_10)) rfl rfl (fun _ hC => r_ld Tryz.isAgg5 rfl ((h_5.gr (Grow.of_below (col := col_3) hC.below)).atInt hj_11)) ?_
   refine xu (v := (.slice a0 s_4.length cap0)) rfl rfl (fun _ => r_move rfl) ?_
   refine xu (v := (.int .i64 i_7)) rfl rfl (fun _ => r_move rfl) ?_
   obtain ⟨e_12, hj_13, hm⟩ := bS hm
   refine xu (v := (sptr a0 (Int.toNat i_7 * 1))) rfl rfl (fun _ => r_idx Tryz.underlying150 Tryz.sizeOf5 rfl rfl (at?_some hj_13).1 (at?_some hj_13).2.1 (h_5.addr hj_13)) ?_
   refine xv (v := (.int .u8 e_12)) rfl rfl (fun _ hC => r_ld Tryz.isAgg5 rfl ((h_5.gr (Grow.of_below (col := col_3) hC.below)).atInt hj_13)) ?_
   refine xu (v := (sptr a0 (Int.toNat i_7 * 1))) rfl rfl (fun _ => r_idx Tryz.underlying150 Tryz.sizeOf5 rfl rfl (at?_some hj_13).1 (at?_some hj_13).2.1 (h_5.addr hj_13)) ?_
   refine xe rfl rfl ?_
   intro w_14 hC0
   have hC : Grow col_3 w_2 col_3 w_14 := .of_below hC0.below
   obtain ⟨xs_20, hz_19, hm⟩ := bS hm
   have hz_19 : xs_20 = s_4.set (Int.toNat i_7) e_10 := (Option.some.inj hz_19).symm
   replace h_5 := h_5.gr hC
   refine l_store (x1 := e_10) (v := (.int .u8 e_10)) h_5 hj_13 rfl Tryz.sizeOf5 (rd_int .u8 e_10) rfl rfl (by decide) ?_
   intro w_15 hk_16 hs_17 h_18
   rw [← hz_19] at h_18
   have hlen_21 : xs_20.length = p0_s.length := (show s_4.length = xs_20.length by rw [hz_19, List.length_set]).symm.trans hlen_6
   refine .ld (d := 0) (v := (.slice a0 xs_20.length cap0)) (congrArg (fun n => Value.slice a0 n cap0) (show s_4.length = xs_20.length by rw [hz_19, List.length_set])) ?_
   refine .ld (d := 16) (v := (.slice a0 xs_20.length cap0)) (congrArg (fun n => Value.slice a0 n cap0) (show s_4.length = xs_20.length by rw [hz_19, List.length_set])) ?_
   clear h_5
   refine lN ⟨fun w' => Grow col_3 w_15 col_3 w', Grow.refl _ _, fun h => absurd h (by decide), ?_⟩
   obtain ⟨e_22, hj_23, hm⟩ := bS hm
   refine xu (v := (sptr a0 (Int.toNat j_8 * 1))) rfl rfl (fun _ => r_idx Tryz.underlying150 Tryz.sizeOf5 rfl rfl (at?_some hj_23).1 (at?_some hj_23).2.1 (h_18.addr hj_23)) ?_
   refine xe rfl rfl ?_
   intro w_24 hC0
   replace hst := (hst.grow hC).kp hk_16 hs_17
   have hC : Grow col_3 w_15 col_3 w_24 := .of_below hC0.below
   obtain ⟨xs_30, hz_29, hm⟩ := bS hm
   have hz_29 : xs_30 = xs_20.set (Int.toNat j_8) e_12 := (Option.some.inj hz_29).symm
   replace h_18 := h_18.gr hC
   refine l_store (x1 := e_12) (v := (.int .u8 e_12)) h_18 hj_23 rfl Tryz.sizeOf5 (rd_int .u8 e_12) rfl rfl (by decide) ?_
   intro w_25 hk_26 hs_27 h_28
   rw [← hz_29] at h_28
   have hlen_31 : xs_30.length = p0_s.length := (show xs_20.length = xs_30.length by rw [hz_29, List.length_set]).symm.trans hlen_21
   refine .ld (d := 0) (v := (.slice a0 xs_30.length cap0)) (congrArg (fun n => Value.slice a0 n cap0) (show xs_20.length = xs_30.length by rw [hz_29, List.length_set])) ?_
   clear h_18
   refine lN ⟨fun w' => Grow col_3 w_25 col_3 w', Grow.refl _ _, fun h => absurd h (by decide), ?_⟩
   refine xnil ?_
   replace hst := (hst.grow hC).kp hk_26 hs_27
   intro w_32 hC
   replace hC : Grow col_3 w_25 col_3 w_32 := .of_below hC.below
   refine wR ?_
   refine lM (.int .i64 i_7) ?_
   refine lV (.int .i64 (IntKind.i64.wrap (i_7 + 1))) (r_add i_7 1 rfl rfl) ?_
   refine lM (.int .i64 j_8) ?_
   refine lV (.int .i64 (IntKind.i64.wrap (j_8 - 1))) (r_sub j_8 1 rfl rfl) ?_
   refine lA (.int .i64 (IntKind.i64.wrap (i_7 + 1))) ?_
   refine lA (.int .i64 (IntKind.i64.wrap (j_8 - 1))) ?_
   refine lN ?_
   replace h_28 := h_28.gr hC
   replace hst := hst.grow hC
   exact ⟨n_1, by omega, ⟨col_3, xs_30, (IntKind.i64.wrap (i_7 + 1)), (IntKind.i64.wrap (j_8 - 1)), n_1, rfl, hm, hst, h_28, hlen_31, hlen_31, rfl, rfl, rfl, rfl⟩⟩
  rw [if_neg (by rw [hb]; decide)] at hm
  clear hb
  refine wexit (inB_hit ?_)
  cases hm
  exact ⟨rfl, colFL w0.heap.size [qc0] col col_3 (fun n => bif Nat.beq n 440 then qc0 else 0), rfl, hst.finL rfl (fun n => bif Nat.beq n 440 then qc0 else 0), hst.finOwnL (g := (fun n => bif Nat.beq n 440 then qc0 else 0)) rfl h_5 (by decide) (by decide) rfl, hlen_9⟩
theorem el5_60 : ElemOk Tryz.prog 5 1 1 := ⟨Tryz.t5, _, rfl, rfl, rfl, rfl, rfl⟩
def m_nat_Text_J1 (digits_38 : List Int) (part_42 : Int) (i_43 : Int) (kk_L2 : ((List Int) → Int → Int → Option ByteArray)) : Option ByteArray :=
  chk ((digits_38.length + [IntKind.u8.wrap (48 + (IntKind.u8.wrap (Int.tmod part_42 10)))].length) * 1 ≤ 140737488355328 ∧ digits_38.length + [IntKind.u8.wrap (48 + (IntKind.u8.wrap (Int.tmod part_42 10)))].length ≤ maxLen) (kk_L2 (digits_38 ++ [IntKind.u8.wrap (48 + (IntKind.u8.wrap (Int.tmod part_42 10)))]) (IntKind.u32.wrap (Int.tdiv part_42 10)) (IntKind.i64.wrap (i_43 + 1)))
def m_nat_Text_J2 (kk_L1 : ((List Int) → (List Int) → Option ByteArray)) (r_27 : (List Int)) (digits_38 : List Int) (part_42 : Int) (i_43 : Int) (kk_L2 : ((List Int) → Int → Int → Option ByteArray)) (v_64 : Bool) : Option ByteArray :=
  if v_64 = true then (m_nat_Text_J1 digits_38 part_42 i_43 kk_L2) else (kk_L1 r_27 digits_38)
def m_nat_Text_L2 (N : Nat) (kk_L1 : ((List Int) → (List Int) → Option ByteArray)) (r_27 : (List Int)) : Nat → (List Int) → Int → Int → Option ByteArray
  | 0, _, _, _ => none
  | n_35 + 1, digits_38, part_42, i_43 => if (decide (i_43 < 9)) = true then (if (decide (0 < (r_27.length : Int))) = true then (m_nat_Text_J2 kk_L1 r_27 digits_38 part_42 i_43 (m_nat_Text_L2 N kk_L1 r_27 n_35) true) else (m_nat_Text_J2 kk_L1 r_27 digits_38 part_42 i_43 (m_nat_Text_L2 N kk_L1 r_27 n_35) (decide (0 < part_42)))) else (m_nat_Text_J2 kk_L1 r_27 digits_38 part_42 i_43 (m_nat_Text_L2 N kk_L1 r_27 n_35) false)
termination_by structural x => x
def m_nat_Text_L1 (N : Nat)  : Nat → (List Int) → (List Int) → Option ByteArray
  | 0, _, _ => none
  | n_9 + 1, rest_12, digits_16 => if (decide (0 < (rest_12.length : Int))) = true then ((m_nat_small N rest_12 1000000000).bind fun r_20 => (m_nat_trim_v0h N r_20.2).bind fun r_27 => m_nat_Text_L2 N (m_nat_Text_L1 N n_9) r_27 N digits_16 r_20.1 0) else ((m_slices_Reverse_byte_byte N digits_16).bind fun r_67 => some (bstr r_67))
termination_by structural x => x
def m_nat_Text (N : Nat) (p0_a : (List Int)) : Option ByteArray :=
  (m_nat_own N p0_a).bind fun r_1 => if (decide ((r_1.length : Int) = 0)) = true then none else (m_nat_Text_L1 N N r_1 ([] : List Int))
theorem c_nat_Text (N : Nat) (col : Col) (w0 : World) (a0 : Option Addr) (cap0 : Nat) (p0_a : (List Int)) (h0 : Sl (Rep.int .u32) col w0 a0 cap0 p0_a) (r : ByteArray) (hm : m_nat_Text N p0_a = some r) :
    Calls Tryz.prog 60 #[(.slice a0 p0_a.length cap0)] w0 (fun e w' => e = .returned ((.string r)) ∧ Below w0.heap.size w0 w') := by
 refine calls_of1 2 (m := 45) (args := [(.slice a0 p0_a.length cap0)]) Tryz.func60 rfl rfl rfl rfl rfl ?_
 rw [m_nat_Text.eq_1] at hm
 have hst := St.start col w0
 refine wS (wR ?_)
 refine lA (.string (⟨#[]⟩)) ?_
 refine lN (wS (wR ?_))
 refine lM (.slice a0 p0_a.length cap0) ?_
 obtain ⟨r_1, hr_2, hm⟩ := bS hm
 replace h0 := h0.keep (Stay.start col w0)
 refine lc rfl rfl (r_call1 Tryz.call89 rfl) (c_nat_own N 1 (col0 col) _ a0 cap0 p0_a h0 r_1 hr_2) ?_
 rintro _ w_6 ⟨col_8, ra_3, rc_4, rfl, hg_7, rh_5⟩
 refine ⟨_, rfl, ?_⟩
 refine lA (.slice ra_3 r_1.length rc_4) ?_
 refine lN (wS (wS (wR ?_)))
 refine lM (.slice ra_3 r_1.length rc_4) ?_
 refine lV (.int .i64 (r_1.length : Int)) (r_len Tryz.underlying36 rfl) ?_
 refine lV (.bool (decide ((r_1.length : Int) = 0))) (r_eql (r_1.length : Int) 0 rfl rfl) ?_
 refine lN ?_
 replace hst := hst.grow hg_7
 refine wcond (decide ((r_1.length : Int) = 0)) rfl (fun hb => ?_) (fun hb => ?_)
 ·rw [if_pos hb] at hm
  clear hb
  cases hm
 rw [if_neg (by rw [hb]; decide)] at hm
 clear hb
 refine wK (wS (wR ?_))
 refine lA (.slice none (([] : List Int).length) 0) ?_
 refine lN (wS (wB ?_))
 refine wloop (fun n f w_10 => ∃ (col_11 : Col) (a_13 : Option Addr) (cap_14 : Nat) (rest_12 : List Int) (a_17 : Option Addr) (cap_18 : Nat) (digits_16 : List Int) (n_9 : Nat), n_9 = n ∧ m_nat_Text_L1 N n_9 rest_12 digits_16 = some r ∧ St w0 (col0 col) col_11 w_10 ∧ Own (Rep.int .u32) 114 1 col_11 w_10 a_13 cap_14 rest_12 ∧ Own (Rep.int .u8) 5 2 col_11 w_10 a_17 cap_18 digits_16 ∧ f 3 = (.slice a_13 rest_12.length cap_14) ∧ f 4 = (.slice a_17 digits_16.length cap_18) ∧ f 1000000 = (enc [])) N ⟨col_8, ra_3, rc_4, r_1, none, 0, ([] : List Int), N, rfl, hm, hst, rh_5, Own.nil, rfl, rfl, rfl⟩ ?_
 clear hm; intro n f w_10 hI
 obtain ⟨col_11, a_13, cap_14, rest_12, a_17, cap_18, digits_16, n_9, hn, hm, hst, h_15, h_19, hs3, hs4, hs1000000⟩ := hI
 subst hn
 refine .lD 3 hs3 ?_
 refine .lD 4 hs4 ?_
 refine .lD 1000000 hs1000000 ?_
 clear hs3 hs4 hs1000000
 cases n_9 with
 | zero => rw [m_nat_Text_L1.eq_1] at hm; cases hm
 | succ n_9 =>
  rw [m_nat_Text_L1.eq_2] at hm
  refine wS (wS (wR ?_))
  refine lM (.slice a_13 rest_12.length cap_14) ?_
  refine lV (.int .i64 (rest_12.length : Int)) (r_len Tryz.underlying36 rfl) ?_
  refine lV (.bool (decide (0 < (rest_12.length : Int)))) (r_gtr (rest_12.length : Int) 0 rfl rfl) ?_
  refine lN ?_
  refine wcond (decide (0 < (rest_12.length : Int))) rfl (fun hb => ?_) (fun hb => ?_)
  ·rw [if_pos hb] at hm
   clear hb
   refine wK (wB (wS (wR ?_)))
   refine lM (.slice a_13 rest_12.length cap_14) ?_
   obtain ⟨r_20, hr_21, hm⟩ := bS hm
   refine lc rfl rfl (r_call2 Tryz.call107 rfl rfl) (c_nat_small N col_11 _ 1 rfl a_13 cap_14 rest_12 1000000000 h_15 r_20 hr_21) ?_
   rintro _ w_24 ⟨col_26, rfl, hg_25, oh_22, ohl_23⟩
   refine ⟨_, rfl, ?_⟩
   clear h_15
   refine .ld (d := 3) (v := (.slice a_13 r_20.2.length cap_14)) (congrArg (fun n => Value.slice a_13 n cap_14) (show rest_12.length = r_20.2.length from ohl_23.symm)) ?_
   refine .ld (d := 15) (v := (.slice a_13 r_20.2.length cap_14)) (congrArg (fun n => Value.slice a_13 n cap_14) (show rest_12.length = r_20.2.length from ohl_23.symm)) ?_
   refine lA (.int .u32 r_20.1) ?_
   refine lN (wS (wR ?_))
   refine lM (.slice a_13 r_20.2.length cap_14) ?_
   obtain ⟨r_27, hr_28, hm⟩ := bS hm
   refine lc rfl rfl (r_call1 Tryz.call88 rfl) (c_nat_trim_v0h N col_26 _ 1 rfl a_13 cap_14 r_20.2 oh_22 r_27 hr_28) ?_
   rintro _ w_32 ⟨col_34, ra_29, rc_30, rfl, hg_33, rh_31⟩
   refine ⟨_, rfl, ?_⟩
   clear oh_22
   refine lA (.slice ra_29 r_27.length rc_30) ?_
   refine lN (wS (wR ?_))
   refine lA (.int .i64 0) ?_
   refine lN (wB ?_)
   replace h_19 := (h_19.kpp hg_25).kpp hg_33
   replace hst := (hst.kpp hg_25).kpp hg_33
   refine wloop (fun n f w_36 => ∃ (col_37 : Col) (a_39 : Option Addr) (cap_40 : Nat) (digits_38 : List Int) (part_42 : Int) (i_43 : Int) (n_35 : Nat), n_35 = n ∧ m_nat_Text_L2 N (m_nat_Text_L1 N n_9) r_27 n_35 digits_38 part_42 i_43 = some r ∧ St w0 (col0 col) col_37 w_36 ∧ Own (Rep.int .u32) 114 1 col_37 w_36 ra_29 rc_30 r_27 ∧ Own (Rep.int .u8) 5 2 col_37 w_36 a_39 cap_40 digits_38 ∧ f 3 = (.slice ra_29 r_27.length rc_30) ∧ f 4 = (.slice a_39 digits_38.length cap_40) ∧ f 5 = (.int .u32 part_42) ∧ f 6 = (.int .i64 i_43) ∧ f 1000000 = (enc [])) N ⟨col_34, a_17, cap_18, digits_16, r_20.1, 0, N, rfl, hm, hst, rh_31, h_19, rfl, rfl, rfl, rfl, rfl⟩ ?_
   clear hm; intro n f w_36 hI
   obtain ⟨col_37, a_39, cap_40, digits_38, part_42, i_43, n_35, hn, hm, hst, rh_31, h_41, hs3, hs4, hs5, hs6, hs1000000⟩ := hI
   subst hn
   refine .lD 3 hs3 ?_
   refine .lD 4 hs4 ?_
   refine .lD 5 hs5 ?_
   refine .lD 6 hs6 ?_
   refine .lD 1000000 hs1000000 ?_
   clear hs3 hs4 hs5 hs6 hs1000000
   cases n_35 with
   | zero => rw [m_nat_Text_L2.eq_1] at hm; cases hm
   | succ n_35 =>
    rw [m_nat_Text_L2.eq_2] at hm
    refine wS ?_
    refine Wp.cut (fun f w_44 => ∃ (col_45 : Col), m_nat_Text_J1 digits_38 part_42 i_43 (m_nat_Text_L2 N (m_nat_Text_L1 N n_9) r_27 n_35)  = some r ∧ St w0 (col0 col) col_45 w_44 ∧ Own (Rep.int .u32) 114 1 col_45 w_44 ra_29 rc_30 r_27 ∧ Own (Rep.int .u8) 5 2 col_45 w_44 a_39 cap_40 digits_38 ∧ f 3 = (.slice ra_29 r_27.length rc_30) ∧ f 4 = (.slice a_39 digits_38.length cap_40) ∧ f 5 = (.int .u32 part_42) ∧ f 6 = (.int .i64 i_43) ∧ f 1000000 = (enc [])) ?_ ?_
    ·intro f w_44 hJ
     obtain ⟨col_45, hm, hst, rh_31, h_41, hs3, hs4, hs5, hs6, hs1000000⟩ := hJ
     rw [m_nat_Text_J1.eq_1] at hm
     refine .lD 3 hs3 ?_
     refine .lD 4 hs4 ?_
     refine .lD 5 hs5 ?_
     refine .lD 6 hs6 ?_
     refine .lD 1000000 hs1000000 ?_
     clear hs3 hs4 hs5 hs6 hs1000000
     refine wS (wB (wS (wR ?_)))
     refine lM (.slice a_39 digits_38.length cap_40) ?_
     refine lM (.int .u32 part_42) ?_
     refine lV (.int .u32 (Int.tmod part_42 10)) (r_rem part_42 10 rfl rfl (by decide)) ?_
     refine lV (.int .u8 (IntKind.u8.wrap (Int.tmod part_42 10))) (r_conv (Int.tmod part_42 10) ⟨_, Tryz.underlying114⟩ Tryz.underlying5 rfl) ?_
     refine lV (.int .u8 (IntKind.u8.wrap (48 + (IntKind.u8.wrap (Int.tmod part_42 10))))) (r_add 48 (IntKind.u8.wrap (Int.tmod part_42 10)) rfl rfl) ?_
     refine l_lit (col := col_45) (r := (Rep.int .u8)) (xs := [IntKind.u8.wrap (48 + (IntKind.u8.wrap (Int.tmod part_42 10)))]) [(.int .u8 (IntKind.u8.wrap (48 + (IntKind.u8.wrap (Int.tmod part_42 10)))))] 3 rfl Tryz.underlying150 el5_60 rfl rfl rfl rfl rfl rfl (by intro v hv; simp only [List.mem_cons, List.not_mem_nil, or_false] at hv; subst hv; rfl) (RowsH.ofF (Rows.consF (r := (Rep.int .u8)) (x := IntKind.u8.wrap (48 + (IntKind.u8.wrap (Int.tmod part_42 10)))) (cs := [(.int .u8 (IntKind.u8.wrap (48 + (IntKind.u8.wrap (Int.tmod part_42 10)))))]) (rd_int .u8 (IntKind.u8.wrap (48 + (IntKind.u8.wrap (Int.tmod part_42 10))))) Rows.nil0)) ?_
     intro a_46 w_47 col_48 hg_49 h_50
     obtain ⟨hb_51, hm⟩ := cS hm
     replace h_41 := h_41.gr hg_49
     refine l_appendM (col := col_48) (w := w_47) (r := (Rep.int .u8)) (c := 2) (c2 := 2) (xs := digits_38) (ys := [IntKind.u8.wrap (48 + (IntKind.u8.wrap (Int.tmod part_42 10)))]) h_41 (h_50.srcN (NB.int (k := .u8))) rfl Tryz.underlying150 el5_60 rfl rfl rfl hb_51.1 hb_51.2 (by decide) ?_
     intro a_52 cap_53 w_54 col_55 hk_56 h_57
     clear h_41
     refine lA (.slice a_52 ((digits_38 ++ [IntKind.u8.wrap (48 + (IntKind.u8.wrap (Int.tmod part_42 10)))]).length) cap_53) ?_
     refine lN (wR ?_)
     refine lM (.int .u32 part_42) ?_
     refine lV (.int .u32 (IntKind.u32.wrap (Int.tdiv part_42 10))) (r_quo part_42 10 rfl rfl (by decide)) ?_
     refine lA (.int .u32 (IntKind.u32.wrap (Int.tdiv part_42 10))) ?_
     refine lN (wR ?_)
     refine lM (.int .i64 i_43) ?_
     refine lV (.int .i64 (IntKind.i64.wrap (i_43 + 1))) (r_add i_43 1 rfl rfl) ?_
     refine lA (.int .i64 (IntKind.i64.wrap (i_43 + 1))) ?_
     refine lN ?_
     replace rh_31 := (rh_31.gr hg_49).kpp hk_56
     replace hst := (hst.grow hg_49).kpp hk_56
     exact ⟨n_35, by omega, ⟨col_55, a_52, cap_53, (digits_38 ++ [IntKind.u8.wrap (48 + (IntKind.u8.wrap (Int.tmod part_42 10)))]), (IntKind.u32.wrap (Int.tdiv part_42 10)), (IntKind.i64.wrap (i_43 + 1)), n_35, rfl, hm, hst, rh_31, h_57, rfl, rfl, rfl, rfl, rfl⟩⟩
    refine wS ?_
    refine Wp.cut (fun f w_62 => ∃ (col_63 : Col) (v_64 : Bool), m_nat_Text_J2 (m_nat_Text_L1 N n_9) r_27 digits_38 part_42 i_43 (m_nat_Text_L2 N (m_nat_Text_L1 N n_9) r_27 n_35) v_64 = some r ∧ St w0 (col0 col) col_63 w_62 ∧ Own (Rep.int .u32) 114 1 col_63 w_62 ra_29 rc_30 r_27 ∧ Own (Rep.int .u8) 5 2 col_63 w_62 a_39 cap_40 digits_38 ∧ f 29 = (.bool v_64) ∧ f 3 = (.slice ra_29 r_27.length rc_30) ∧ f 4 = (.slice a_39 digits_38.length cap_40) ∧ f 5 = (.int .u32 part_42) ∧ f 6 = (.int .i64 i_43) ∧ f 1000000 = (enc [])) ?_ ?_
    ·intro f w_62 hJ
     obtain ⟨col_63, v_64, hm, hst, rh_31, h_41, hs29, hs3, hs4, hs5, hs6, hs1000000⟩ := hJ
     rw [m_nat_Text_J2.eq_1] at hm
     refine .lD 29 hs29 ?_
     refine .lD 3 hs3 ?_
     refine .lD 4 hs4 ?_
     refine .lD 5 hs5 ?_
     refine .lD 6 hs6 ?_
     refine .lD 1000000 hs1000000 ?_
     clear hs29 hs3 hs4 hs5 hs6 hs1000000
     refine wcond (v_64) rfl (fun hb => ?_) (fun hb => ?_)
     ·rw [if_pos hb] at hm
      clear hb
      refine wK ?_
      exact ⟨col_63, hm, hst, rh_31, h_41, rfl, rfl, rfl, rfl, rfl⟩
     rw [if_neg (by rw [hb]; decide)] at hm
     clear hb
     refine wexit (inB_hit ?_)
     exact ⟨n_9, by omega, ⟨col_63, ra_29, rc_30, r_27, a_39, cap_40, digits_38, n_9, rfl, hm, hst, rh_31, h_41, rfl, rfl, rfl⟩⟩
    refine wR ?_
    refine lM (.int .i64 i_43) ?_
    refine lV (.bool (decide (i_43 < 9))) (r_lss i_43 9 rfl rfl) ?_
    refine lM (.bool (decide (i_43 < 9))) ?_
    by_cases hg_65 : (decide (i_43 < 9)) = true
    ·rw [if_pos hg_65] at hm
     refine lg (b := decide (i_43 < 9)) 21 rfl rfl rfl (by rw [hg_65]; rfl) ?_
     refine lM (.slice ra_29 r_27.length rc_30) ?_
     refine lg (b := decide (i_43 < 9)) 21 rfl rfl rfl (by rw [hg_65]; rfl) ?_
     refine lV (.int .i64 (r_27.length : Int)) (r_len Tryz.underlying36 rfl) ?_
     refine lg (b := decide (i_43 < 9)) 21 rfl rfl rfl (by rw [hg_65]; rfl) ?_
     refine lV (.bool (decide (0 < (r_27.length : Int)))) (r_gtr (r_27.length : Int) 0 rfl rfl) ?_
     refine lg (b := decide (i_43 < 9)) 21 rfl rfl rfl (by rw [hg_65]; rfl) ?_
     refine lM (.bool (decide (0 < (r_27.length : Int)))) ?_
     by_cases hg_66 : (decide (0 < (r_27.length : Int))) = true
     ·rw [if_pos hg_66] at hm
      refine lp (b := decide (0 < (r_27.length : Int))) 25 rfl rfl rfl rfl (by rw [hg_66]; rfl) ?_
      refine lp (b := decide (0 < (r_27.length : Int))) 25 rfl rfl rfl rfl (by rw [hg_66]; rfl) ?_
      refine lg (b := decide (i_43 < 9)) 21 rfl rfl rfl (by rw [hg_65]; rfl) ?_
      refine lV (.bool true) (r_pickT (congrArg Value.bool hg_66) rfl) ?_
      refine lV (.bool true) (r_pickT (congrArg Value.bool hg_65) rfl) ?_
      refine lN ?_
      exact ⟨col_37, true, hm, hst, rh_31, h_41, rfl, rfl, rfl, rfl, rfl, rfl⟩
     rw [if_neg hg_66] at hm
     replace hg_66 := Bool.eq_false_iff.2 hg_66
     refine lg (b := decide (0 < (r_27.length : Int))) 25 rfl rfl rfl (by rw [hg_66]; rfl) ?_
     refine lM (.int .u32 part_42) ?_
     refine lg (b := decide (0 < (r_27.length : Int))) 25 rfl rfl rfl (by rw [hg_66]; rfl) ?_
     refine lV (.bool (decide (0 < part_42))) (r_gtr part_42 0 rfl rfl) ?_
     refine lg (b := decide (i_43 < 9)) 21 rfl rfl rfl (by rw [hg_65]; rfl) ?_
     refine lV (.bool (decide (0 < part_42))) (r_pickF (congrArg Value.bool hg_66) rfl) ?_
     refine lV (.bool (decide (0 < part_42))) (r_pickT (congrArg Value.bool hg_65) rfl) ?_
     refine lN ?_
     exact ⟨col_37, (decide (0 < part_42)), hm, hst, rh_31, h_41, rfl, rfl, rfl, rfl, rfl, rfl⟩
    rw [if_neg hg_65] at hm
    replace hg_65 := Bool.eq_false_iff.2 hg_65
    refine lp (b := decide (i_43 < 9)) 21 rfl rfl rfl rfl (by rw [hg_65]; rfl) ?_
    refine lp (b := decide (i_43 < 9)) 21 rfl rfl rfl rfl (by rw [hg_65]; rfl) ?_
    refine lp (b := decide (i_43 < 9)) 21 rfl rfl rfl rfl (by rw [hg_65]; rfl) ?_
    refine lp (b := decide (i_43 < 9)) 21 rfl rfl rfl rfl (by rw [hg_65]; rfl) ?_
    refine lpU 25 rfl rfl rfl rfl ?_
    refine lpU 25 rfl rfl rfl rfl ?_
    refine lp (b := decide (i_43 < 9)) 21 rfl rfl rfl rfl (by rw [hg_65]; rfl) ?_
    refine lV (.bool false) (r_pickF (congrArg Value.bool hg_65) rfl) ?_
    refine lN ?_
    exact ⟨col_37, false, hm, hst, rh_31, h_41, rfl, rfl, rfl, rfl, rfl, rfl⟩
  rw [if_neg (by rw [hb]; decide)] at hm
  clear hb
  refine wexit (inB_hit ?_)
  refine wS (wR ?_)
  refine lM (.slice a_17 digits_16.length cap_18) ?_
  obtain ⟨r_67, hr_68, hm⟩ := bS hm
  refine lc rfl rfl (r_call1 Tryz.call108 rfl) (c_slices_Reverse_byte_byte N col_11 _ 2 rfl a_17 cap_18 digits_16 h_19 r_67 hr_68) ?_
  rintro _ w_71 ⟨col_73, rfl, hg_72, oh_69, ohl_70⟩
  refine ⟨_, rfl, ?_⟩
  clear h_19
  refine .ld (d := 4) (v := (.slice a_17 r_67.length cap_18)) (congrArg (fun n => Value.slice a_17 n cap_18) (show digits_16.length = r_67.length from ohl_70.symm)) ?_
  refine .ld (d := 41) (v := (.slice a_17 r_67.length cap_18)) (congrArg (fun n => Value.slice a_17 n cap_18) (show digits_16.length = r_67.length from ohl_70.symm)) ?_
  refine lN (wS (wR ?_))
  refine lM (.slice a_17 r_67.length cap_18) ?_
  refine lV (.string (bstr r_67)) (r_bytesStr (c := 1) (c2 := 1) (oh_69.srcN NB.int) Tryz.underlying150 Tryz.underlying5 Tryz.underlying9 rfl) ?_
  refine lA (.string (bstr r_67)) ?_
  refine lN ?_
  refine wret ?_
  cases hm
  replace hst := hst.kpp hg_72
  exact ⟨rfl, rfl, hst.below⟩
def m_whole_Text (N : Nat) (p0_a : (Bool × (List Int))) : Option ByteArray :=
  (m_whole_Sign N (p0_a.1, p0_a.2)).bind fun r_6 => if (decide (r_6 < 0)) = true then none else ((m_nat_Text N p0_a.2).bind fun r_10 => some r_10)
theorem c_whole_Text (N : Nat) (col : Col) (w0 : World) (a0_0 : Option Addr) (cap0_0 : Nat) (p0_a : (Bool × (List Int))) (h0_0 : Sl (Rep.int .u32) col w0 a0_0 cap0_0 p0_a.2) (r : ByteArray) (hm : m_whole_Text N p0_a = some r) :
    Calls Tryz.prog 57 #[(.agg #[(.bool p0_a.1), (.slice a0_0 p0_a.2.length cap0_0)])] w0 (fun e w' => e = .returned ((.string r)) ∧ Below w0.heap.size w0 w') := by
 refine calls_of1 2 (m := 13) (args := [(.agg #[(.bool p0_a.1), (.slice a0_0 p0_a.2.length cap0_0)])]) Tryz.func57 rfl rfl rfl rfl rfl ?_
 rw [m_whole_Text.eq_1] at hm
 have hst := St.start col w0
 refine wS (wR ?_)
 refine l_box (col := (col0 col)) (v := (.agg #[(.bool p0_a.1), (.slice a0_0 p0_a.2.length cap0_0)])) 1 rfl rfl ?_
 intro g_1 w_2 col_3 hg_4 hb_5
 replace hb_5 : Box 38 1 col_3 w_2 g_1 #[(.bool p0_a.1), (.slice a0_0 p0_a.2.length cap0_0)] := hb_5
 refine lA (.string (⟨#[]⟩)) ?_
 refine lN (wS (wS (wR ?_)))
 refine lV (.agg #[(.bool p0_a.1), (.slice a0_0 p0_a.2.length cap0_0)]) (r_ldN Tryz.isAgg38 Tryz.sizeOf38 rfl rfl hb_5.atN) ?_
 obtain ⟨r_6, hr_7, hm⟩ := bS hm
 replace h0_0 := (h0_0.keep (Stay.start col w0)).gr hg_4
 refine lc rfl rfl (r_call1 Tryz.call76 rfl) (c_whole_Sign N col_3 _ a0_0 cap0_0 (p0_a.1, p0_a.2) h0_0 r_6 hr_7) ?_
 rintro _ w_8 ⟨rfl, hg_9⟩
 refine ⟨_, rfl, ?_⟩
 replace hg_9 : Grow col_3 w_2 col_3 w_8 := .of_below hg_9
 refine lV (.bool (decide (r_6 < 0))) (r_lss r_6 0 rfl rfl) ?_
 refine lN ?_
 replace hst := (hst.grow hg_4).grow hg_9
 replace h0_0 := h0_0.gr hg_9
 replace hb_5 := hb_5.gr hg_9
 refine wcond (decide (r_6 < 0)) rfl (fun hb => ?_) (fun hb => ?_)
 ·rw [if_pos hb] at hm
  clear hb
  cases hm
 rw [if_neg (by rw [hb]; decide)] at hm
 clear hb
 refine wK (wS (wR ?_))
 refine lV (.pointer ((some (⟨g_1, 0, none⟩ : Addr)).map (·.add 1))) (rF (sz := 1) (off := 1) Tryz.underlying38 rfl Tryz.sizeOf36 (by decide) rfl rfl ⟨_, _, rfl⟩) ?_
 refine lV (.slice a0_0 p0_a.2.length cap0_0) (r_ld Tryz.isAgg36 rfl ((hb_5.atN).nth (q := 1) (v := (.slice a0_0 p0_a.2.length cap0_0)) rfl)) ?_
 obtain ⟨r_10, hr_11, hm⟩ := bS hm
 refine lc rfl rfl (r_call1 Tryz.call60 rfl) (c_nat_Text N col_3 _ a0_0 cap0_0 p0_a.2 h0_0 r_10 hr_11) ?_
 rintro _ w_12 ⟨rfl, hg_13⟩
 refine ⟨_, rfl, ?_⟩
 replace hg_13 : Grow col_3 w_8 col_3 w_12 := .of_below hg_13
 refine lA (.string r_10) ?_
 refine lN ?_
 refine wret ?_
 cases hm
 replace hst := hst.grow hg_13
 exact ⟨rfl, rfl, hst.below⟩
def m_frac_Text_J1 (s_40 : ByteArray) : Option ByteArray :=
  some s_40
def m_frac_Text (N : Nat) (p0_a : ((Bool × (List Int)) × (List Int))) : Option ByteArray :=
  (m_frac_under N ((p0_a.1.1, p0_a.1.2), p0_a.2)).bind fun r_7 => (m_frac_lowest N p0_a.1.1 p0_a.1.2 r_7).bind fun r_16 => (m_whole_Text N (r_16.1.1, r_16.1.2)).bind fun r_34 => (m_nat_Of N 1).bind fun r_42 => (m_nat_Cmp N r_16.2 r_42).bind fun r_51 => if (!decide (r_51 = 0)) = true then ((m_nat_Text N r_16.2).bind fun r_56 => chk ((⟨#[47]⟩ : ByteArray).size + r_56.size ≤ maxLen) (chk (r_34.size + ((⟨#[47]⟩) ++ r_56).size ≤ maxLen) (m_frac_Text_J1 (r_34 ++ ((⟨#[47]⟩) ++ r_56))))) else none
theorem c_frac_Text (N : Nat) (col : Col) (w0 : World) (a0_0 : Option Addr) (cap0_0 : Nat) (a0_2 : Option Addr) (cap0_2 : Nat) (p0_a : ((Bool × (List Int)) × (List Int))) (h0_0 : Sl (Rep.int .u32) col w0 a0_0 cap0_0 p0_a.1.2) (h0_2 : Sl (Rep.int .u32) col w0 a0_2 cap0_2 p0_a.2) (r : ByteArray) (hm : m_frac_Text N p0_a = some r) :
    Calls Tryz.prog 18 #[(.agg #[(.bool p0_a.1.1), (.slice a0_0 p0_a.1.2.length cap0_0), (.slice a0_2 p0_a.2.length cap0_2)])] w0 (fun e w' => e = .returned ((.string r)) ∧ Below w0.heap.size w0 w') := by
 refine calls_of1 2 (m := 28) (args := [(.agg #[(.bool p0_a.1.1), (.slice a0_0 p0_a.1.2.length cap0_0), (.slice a0_2 p0_a.2.length cap0_2)])]) Tryz.func18 rfl rfl rfl rfl rfl ?_
 rw [m_frac_Text.eq_1] at hm
 have hst := St.start col w0
 refine wS (wR ?_)
 refine l_box (col := (col0 col)) (v := (.agg #[(.bool p0_a.1.1), (.slice a0_0 p0_a.1.2.length cap0_0), (.slice a0_2 p0_a.2.length cap0_2)])) 1 rfl rfl ?_
 intro g_1 w_2 col_3 hg_4 hb_5
 replace hb_5 : Box 40 1 col_3 w_2 g_1 #[(.bool p0_a.1.1), (.slice a0_0 p0_a.1.2.length cap0_0), (.slice a0_2 p0_a.2.length cap0_2)] := hb_5
 refine lA (.string (⟨#[]⟩)) ?_
 refine lN (wS ?_)
 refine wmix (col := col_3) [(0, 1), (1, 1), (2, 0), (3, 1), (4, 1), (5, 0), (6, 0), (7, 3), (8, 3), (9, 2)] (by kernel_rfl) (by kernel_rfl) ?_
 refine xu (v := (.pointer ((some (⟨g_1, 0, none⟩ : Addr)).map (·.add 0)))) rfl rfl (fun _ => rF (sz := 2) (off := 0) Tryz.underlying40 rfl Tryz.sizeOf38 (by decide) rfl rfl ⟨_, _, rfl⟩) ?_
 refine xu (v := (.pointer (((some (⟨g_1, 0, none⟩ : Addr)).map (·.add 0)).map (·.add 0)))) rfl rfl (fun _ => rF (sz := 1) (off := 0) Tryz.underlying38 rfl Tryz.sizeOf4 (by decide) rfl rfl (sptr_addr ⟨_, _, rfl⟩)) ?_
 refine xv (v := (.bool p0_a.1.1)) rfl rfl (fun _ hC => r_ld Tryz.isAgg4 rfl (((((hb_5.atN).part 0 2 _ rfl)).nth (q := 0) (v := (.bool p0_a.1.1)) rfl).gr (Grow.of_below (col := col_3) hC.below))) ?_
 refine xu (v := (.pointer ((some (⟨g_1, 0, none⟩ : Addr)).map (·.add 0)))) rfl rfl (fun _ => rF (sz := 2) (off := 0) Tryz.underlying40 rfl Tryz.sizeOf38 (by decide) rfl rfl ⟨_, _, rfl⟩) ?_
 refine xu (v := (.pointer (((some (⟨g_1, 0, none⟩ : Addr)).map (·.add 0)).map (·.add 1)))) rfl rfl (fun _ => rF (sz := 1) (off := 1) Tryz.underlying38 rfl Tryz.sizeOf36 (by decide) rfl rfl (sptr_addr ⟨_, _, rfl⟩)) ?_
 refine xv (v := (.slice a0_0 p0_a.1.2.length cap0_0)) rfl rfl (fun _ hC => r_ld Tryz.isAgg36 rfl (((((hb_5.atN).part 0 2 _ rfl)).nth (q := 1) (v := (.slice a0_0 p0_a.1.2.length cap0_0)) rfl).gr (Grow.of_below (col := col_3) hC.below))) ?_
 refine xv (v := (.agg #[(.bool p0_a.1.1), (.slice a0_0 p0_a.1.2.length cap0_0), (.slice a0_2 p0_a.2.length cap0_2)])) rfl rfl (fun _ hC => r_ldN Tryz.isAgg40 Tryz.sizeOf40 rfl rfl (hb_5.atN.gr (Grow.of_below (col := col_3) hC.below))) ?_
 refine xe rfl rfl ?_
 intro w_6 hC0
 have hC : Grow col_3 w_2 col_3 w_6 := .of_below hC0.below
 obtain ⟨r_7, hr_8, hm⟩ := bS hm
 replace h0_0 := ((h0_0.keep (Stay.start col w0)).gr hg_4).gr hC
 replace h0_2 := ((h0_2.keep (Stay.start col w0)).gr hg_4).gr hC
 refine lc rfl rfl (r_call1 Tryz.call56 rfl) (c_frac_under N 2 col_3 _ a0_0 cap0_0 a0_2 cap0_2 ((p0_a.1.1, p0_a.1.2), p0_a.2) h0_0 h0_2 r_7 hr_8) ?_
 rintro _ w_12 ⟨col_14, ra_9, rc_10, rfl, hg_13, rh_11⟩
 refine ⟨_, rfl, ?_⟩
 refine lN ⟨fun w' => Grow col_14 w_12 col_14 w', Grow.refl _ _, fun _ _ h => cls hC0 hg_13 h, ?_⟩
 refine xe rfl rfl ?_
 intro w_15 hC0
 replace hst := ((hst.grow hg_4).grow hC).grow hg_13
 replace hb_5 := (hb_5.gr hC).gr hg_13
 have hC : Grow col_14 w_12 col_14 w_15 := .of_below hC0.below
 obtain ⟨r_16, hr_17, hm⟩ := bS hm
 replace h0_0 := (h0_0.gr hg_13).gr hC
 replace rh_11 := rh_11.gr hC
 refine lc rfl rfl (r_call3 Tryz.call55 rfl rfl rfl) (c_frac_lowest N 3 4 (frC 2 col_14) _ p0_a.1.1 a0_0 cap0_0 p0_a.1.2 ra_9 rc_10 r_7 (h0_0.froz 2) (rh_11.toSlF (Froz.int .u32)) r_16 hr_17) ?_
 rintro _ w_24 ⟨col_26, ra_18, rc_19, ra_21, rc_22, rfl, hg_25, rh_20, rh_23⟩
 refine ⟨_, rfl, ?_⟩
 replace rh_20 := rh_20.thaw (flat_int .u32) hg_25 ((Fz.refl (col := col_14)).froz 2) (by decide)
 replace rh_23 := rh_23.thaw (flat_int .u32) hg_25 ((Fz.refl (col := col_14)).froz 2) (by decide)
 replace hg_25 := hg_25.thawR (col := col_14)
 generalize colR w_15.heap.size col_14 col_26 = col_27 at *
 refine lN ⟨fun w' => Grow col_27 w_24 col_27 w', Grow.refl _ _, fun _ _ h => cls hC0 hg_25 h, ?_⟩
 refine xe rfl rfl ?_
 intro w_28 hC0
 replace hb_5 := (hb_5.gr hC).gr hg_25
 replace hst := (hst.grow hC).grow hg_25
 have hC : Grow col_27 w_24 col_27 w_28 := .of_below hC0.below
 replace hb_5 := hb_5.gr hC
 refine l_bstore (v := (.agg #[(.bool r_16.1.1), (.slice ra_18 r_16.1.2.length rc_19), (.slice ra_21 r_16.2.length rc_22)])) hb_5 Tryz.sizeOf40 rfl rfl (by intro u hu; simp only [Value.cells, List.mem_cons, List.not_mem_nil, or_false] at hu; rcases hu with rfl | rfl | rfl <;> rfl) rfl rfl ?_
 intro w_29 hk_30 hs_31 hb_32
 clear hb_5
 replace hb_32 : Box 40 1 col_27 w_29 g_1 #[(.bool r_16.1.1), (.slice ra_18 r_16.1.2.length rc_19), (.slice ra_21 r_16.2.length rc_22)] := hb_32
 refine lN ⟨fun w' => Grow col_27 w_29 col_27 w', Grow.refl _ _, fun h => absurd h (by decide), ?_⟩
 refine xnil ?_
 replace rh_20 := (rh_20.gr hC).kp hk_30
 replace rh_23 := (rh_23.gr hC).kp hk_30
 replace hst := (hst.grow hC).kp hk_30 hs_31
 intro w_33 hC
 replace hC : Grow col_27 w_29 col_27 w_33 := .of_below hC.below
 refine wS (wR ?_)
 refine lV (.pointer ((some (⟨g_1, 0, none⟩ : Addr)).map (·.add 0))) (rF (sz := 2) (off := 0) Tryz.underlying40 rfl Tryz.sizeOf38 (by decide) rfl rfl ⟨_, _, rfl⟩) ?_
 replace hb_32 := hb_32.gr hC
 refine lV (.agg #[(.bool r_16.1.1), (.slice ra_18 r_16.1.2.length rc_19)]) (r_ldN Tryz.isAgg38 Tryz.sizeOf38 rfl rfl ((hb_32.atN).part 0 2 _ rfl)) ?_
 obtain ⟨r_34, hr_35, hm⟩ := bS hm
 replace rh_20 := rh_20.gr hC
 refine lc rfl rfl (r_call1 Tryz.call57 rfl) (c_whole_Text N (frC 3 col_27) _ ra_18 rc_19 (r_16.1.1, r_16.1.2) (rh_20.toSlF (Froz.int .u32)) r_34 hr_35) ?_
 rintro _ w_36 ⟨rfl, hg_37⟩
 refine ⟨_, rfl, ?_⟩
 replace hg_37 : Grow col_27 w_33 col_27 w_36 := .of_below hg_37
 refine lA (.string r_34) ?_
 refine lN (wS ?_)
 replace rh_23 := (rh_23.gr hC).gr hg_37
 replace hst := (hst.grow hC).grow hg_37
 replace hb_32 := hb_32.gr hg_37
 refine Wp.cut (fun f w_38 => ∃ (col_39 : Col) (s_40 : ByteArray), m_frac_Text_J1 s_40 = some r ∧ St w0 (col0 col) col_39 w_38 ∧ f 3 = (.string s_40) ∧ f 1000000 = (enc [])) ?_ ?_
 ·intro f w_38 hJ
  obtain ⟨col_39, s_40, hm, hst, hs3, hs1000000⟩ := hJ
  rw [m_frac_Text_J1.eq_1] at hm
  refine .lD 3 hs3 ?_
  refine .lD 1000000 hs1000000 ?_
  clear hs3 hs1000000
  refine wS (wR ?_)
  refine lM (.string s_40) ?_
  refine lA (.string s_40) ?_
  refine lN ?_
  refine wret ?_
  cases hm
  exact ⟨rfl, rfl, hst.below⟩
 refine wS ?_
 refine wmix (col := col_27) [(0, 1), (1, 0), (2, 3), (3, 3), (4, 1)] (by kernel_rfl) (by kernel_rfl) ?_
 refine xu (v := (.pointer ((some (⟨g_1, 0, none⟩ : Addr)).map (·.add 2)))) rfl rfl (fun _ => rF (sz := 1) (off := 2) Tryz.underlying40 rfl Tryz.sizeOf36 (by decide) rfl rfl ⟨_, _, rfl⟩) ?_
 refine xv (v := (.slice ra_21 r_16.2.length rc_22)) rfl rfl (fun _ hC => r_ld Tryz.isAgg36 rfl (((hb_32.atN).nth (q := 2) (v := (.slice ra_21 r_16.2.length rc_22)) rfl).gr (Grow.of_below (col := col_27) hC.below))) ?_
 refine xe rfl rfl ?_
 intro w_41 hC0
 have hC : Grow col_27 w_36 col_27 w_41 := .of_below hC0.below
 obtain ⟨r_42, hr_43, hm⟩ := bS hm
 refine lc rfl rfl (r_call1 Tryz.call59 rfl) (c_nat_Of N 5 col_27 _ 1 r_42 hr_43) ?_
 rintro _ w_47 ⟨col_49, ra_44, rc_45, rfl, hg_48, rh_46⟩
 refine ⟨_, rfl, ?_⟩
 refine lN ⟨fun w' => Grow col_49 w_47 col_49 w', Grow.refl _ _, fun _ _ h => cls hC0 hg_48 h, ?_⟩
 refine xe rfl rfl ?_
 intro w_50 hC0
 replace rh_23 := (rh_23.gr hC).gr hg_48
 replace hb_32 := (hb_32.gr hC).gr hg_48
 replace hst := (hst.grow hC).grow hg_48
 have hC : Grow col_49 w_47 col_49 w_50 := .of_below hC0.below
 obtain ⟨r_51, hr_52, hm⟩ := bS hm
 replace rh_23 := rh_23.gr hC
 replace rh_46 := rh_46.gr hC
 refine lc rfl rfl (r_call2 Tryz.call58 rfl rfl) (c_nat_Cmp N (frC 5 (frC 4 col_49)) _ ra_21 rc_22 r_16.2 ra_44 rc_45 r_42 ((rh_23.toSlF (Froz.int .u32)).froz 5) ((rh_46.froz 4 (by decide)).toSlF (Froz.int .u32)) r_51 hr_52) ?_
 rintro _ w_53 ⟨rfl, hg_54⟩
 refine ⟨_, rfl, ?_⟩
 replace hg_54 : Grow col_49 w_50 col_49 w_53 := .of_below hg_54
 refine lN ⟨fun w' => Grow col_49 w_53 col_49 w', Grow.refl _ _, fun _ _ h => cls hC0 hg_54 h, ?_⟩
 refine xu (v := (.bool (!decide (r_51 = 0)))) rfl rfl (fun _ => r_neq r_51 0 rfl rfl) ?_
 refine xnil ?_
 replace hb_32 := (hb_32.gr hC).gr hg_54
 replace hst := (hst.grow hC).grow hg_54
 intro w_55 hC
 replace hC : Grow col_49 w_53 col_49 w_55 := .of_below hC.below
 replace rh_23 := (rh_23.gr hg_54).gr hC
 replace hb_32 := hb_32.gr hC
 replace hst := hst.grow hC
 refine wcond (!decide (r_51 = 0)) rfl (fun hb => ?_) (fun hb => ?_)
 ·rw [if_pos hb] at hm
  clear hb
  refine wR ?_
  refine lM (.string r_34) ?_
  refine lV (.pointer ((some (⟨g_1, 0, none⟩ : Addr)).map (·.add 2))) (rF (sz := 1) (off := 2) Tryz.underlying40 rfl Tryz.sizeOf36 (by decide) rfl rfl ⟨_, _, rfl⟩) ?_
  refine lV (.slice ra_21 r_16.2.length rc_22) (r_ld Tryz.isAgg36 rfl ((hb_32.atN).nth (q := 2) (v := (.slice ra_21 r_16.2.length rc_22)) rfl)) ?_
  obtain ⟨r_56, hr_57, hm⟩ := bS hm
  refine lc rfl rfl (r_call1 Tryz.call60 rfl) (c_nat_Text N (frC 4 col_49) _ ra_21 rc_22 r_16.2 (rh_23.toSlF (Froz.int .u32)) r_56 hr_57) ?_
  rintro _ w_58 ⟨rfl, hg_59⟩
  refine ⟨_, rfl, ?_⟩
  replace hg_59 : Grow col_49 w_55 col_49 w_58 := .of_below hg_59
  obtain ⟨hb_60, hm⟩ := cS hm
  refine lV (.string ((⟨#[47]⟩) ++ r_56)) (r_addS Tryz.underlying9 rfl rfl hb_60) ?_
  obtain ⟨hb_61, hm⟩ := cS hm
  refine lV (.string (r_34 ++ ((⟨#[47]⟩) ++ r_56))) (r_addS Tryz.underlying9 rfl rfl hb_61) ?_
  refine lA (.string (r_34 ++ ((⟨#[47]⟩) ++ r_56))) ?_
  refine lN ?_
  replace hst := hst.grow hg_59
  exact ⟨col_49, (r_34 ++ ((⟨#[47]⟩) ++ r_56)), hm, hst, rfl, rfl⟩
 rw [if_neg (by rw [hb]; decide)] at hm
 clear hb
 cases hm
theorem el3_7 : ElemOk Tryz.prog 3 1 8 := ⟨Tryz.t3, _, rfl, rfl, rfl, rfl, rfl⟩
def m_l26_alive_J1 (v_127 : Bool) : Option Bool :=
  some v_127
def m_l26_alive (N : Nat)  : Option Bool :=
  (m_r20_Rain N).bind fun r_1 => (m_code_Encode N (r_1.1, r_1.2.1, r_1.2.2.1, r_1.2.2.2.1, r_1.2.2.2.2) [0, 1]).bind fun r_32 => (m_code_Decode N (r_1.1, r_1.2.1, r_1.2.2.1, r_1.2.2.2.1, r_1.2.2.2.2) (⟨#[49, 49, 49, 48]⟩)).bind fun r_36 => (m_code_Span N (r_1.1, r_1.2.1, r_1.2.2.1, r_1.2.2.2.1, r_1.2.2.2.2) [1, 0]).bind fun r_50 => if (decide (r_32.2 = 0)) = true then (if (decide (r_36.2.2 = 0)) = true then (if (decide (r_50.2 = 0)) = true then (if (decide (r_32.1 = (⟨#[49, 49, 48, 48, 48]⟩))) = true then (if (decide (r_36.2.1 = 3)) = true then ((m_r20_SameInts N r_36.1 [1, 1]).bind fun r_138 => if r_138 = true then ((m_frac_Text N ((r_50.1.1.1.1, r_50.1.1.1.2), r_50.1.1.2)).bind fun r_143 => if (decide (r_143 = (⟨#[52, 47, 53]⟩))) = true then ((m_frac_Text N ((r_50.1.2.1.1, r_50.1.2.1.2), r_50.1.2.2)).bind fun r_148 => m_l26_alive_J1 (decide (r_148 = (⟨#[52, 49, 47, 53, 48]⟩)))) else (m_l26_alive_J1 false)) else (m_l26_alive_J1 false)) else (m_l26_alive_J1 false)) else (m_l26_alive_J1 false)) else (m_l26_alive_J1 false)) else (m_l26_alive_J1 false)) else (m_l26_alive_J1 false)
theorem c_l26_alive (N : Nat) (col : Col) (w0 : World)  (r : Bool) (hm : m_l26_alive N = some r) :
    Calls Tryz.prog 7 #[] w0 (fun e w' => e = .returned ((.bool r)) ∧ Below w0.heap.size w0 w') := by
 refine calls_of1 0 (m := 63) (args := []) Tryz.func7 rfl rfl rfl rfl rfl ?_
 rw [m_l26_alive.eq_1] at hm
 have hst := St.start col w0
 refine wS (wR ?_)
 refine lA (.bool false) ?_
 refine lN (wS (wR ?_))
 obtain ⟨r_1, hr_2, hm⟩ := bS hm
 refine lc rfl rfl (r_call0 Tryz.call15 ) (c_r20_Rain N 1 2 3 4 (col0 col) _ r_1 hr_2) ?_
 rintro _ w_15 ⟨col_17, ra_3, rc_4, ra_6, rc_7, ra_9, rc_10, ra_12, rc_13, rfl, hg_16, rh_5, rh_8, rh_11, rh_14⟩
 refine ⟨_, rfl, ?_⟩
 refine l_alloc (col := col_17) (v := (.agg #[(.string (⟨#[]⟩)), (.slice none (([] : List ByteArray).length) 0), (.slice none (([] : List (List ByteArray)).length) 0), (.slice none (([] : List (List Int)).length) 0), (.slice none (([] : List (List ((Bool × (List Int)) × (List Int)))).length) 0)])) 5 rfl Tryz.zeroValue28 ?_
 intro g_18 w_19 col_20 hg_21 hb_22
 replace hb_22 : Box 28 5 col_20 w_19 g_18 #[(.string (⟨#[]⟩)), (.slice none (([] : List ByteArray).length) 0), (.slice none (([] : List (List ByteArray)).length) 0), (.slice none (([] : List (List Int)).length) 0), (.slice none (([] : List (List ((Bool × (List Int)) × (List Int)))).length) 0)] := hb_22
 refine l_bstore (v := (.agg #[(.string r_1.1), (.slice ra_3 r_1.2.1.length rc_4), (.slice ra_6 r_1.2.2.1.length rc_7), (.slice ra_9 r_1.2.2.2.1.length rc_10), (.slice ra_12 r_1.2.2.2.2.length rc_13)])) hb_22 Tryz.sizeOf28 rfl rfl (by intro u hu; simp only [Value.cells, List.mem_cons, List.not_mem_nil, or_false] at hu; rcases hu with rfl | rfl | rfl | rfl | rfl <;> rfl) rfl rfl ?_
 intro w_23 hk_24 hs_25 hb_26
 clear hb_22
 replace hb_26 : Box 28 5 col_20 w_23 g_18 #[(.string r_1.1), (.slice ra_3 r_1.2.1.length rc_4), (.slice ra_6 r_1.2.2.1.length rc_7), (.slice ra_9 r_1.2.2.2.1.length rc_10), (.slice ra_12 r_1.2.2.2.2.length rc_13)] := hb_26
 refine lN (wS (wR ?_))
 refine lV (.agg #[(.string r_1.1), (.slice ra_3 r_1.2.1.length rc_4), (.slice ra_6 r_1.2.2.1.length rc_7), (.slice ra_9 r_1.2.2.2.1.length rc_10), (.slice ra_12 r_1.2.2.2.2.length rc_13)]) (r_ldN Tryz.isAgg28 Tryz.sizeOf28 rfl rfl hb_26.atN) ?_
 refine l_lit (col := col_20) (r := (Rep.int .i64)) (xs := [0, 1]) [(.int .i64 0), (.int .i64 1)] 6 rfl Tryz.underlying33 el3_7 rfl rfl rfl rfl rfl rfl (by intro v hv; simp only [List.mem_cons, List.not_mem_nil, or_false] at hv; rcases hv with rfl | rfl <;> rfl) (RowsH.ofF (Rows.consF (r := (Rep.int .i64)) (x := 0) (cs := [(.int .i64 0)]) (rd_int .i64 0) (Rows.consF (r := (Rep.int .i64)) (x := 1) (cs := [(.int .i64 1)]) (rd_int .i64 1) Rows.nil0))) ?_
 intro a_27 w_28 col_29 hg_30 h_31
 obtain ⟨r_32, hr_33, hm⟩ := bS hm
 replace rh_5 := ((rh_5.gr hg_21).kp hk_24).gr hg_30
 replace rh_8 := ((rh_8.gr hg_21).kp hk_24).gr hg_30
 replace rh_11 := ((rh_11.gr hg_21).kp hk_24).gr hg_30
 replace rh_14 := ((rh_14.gr hg_21).kp hk_24).gr hg_30
 refine lc rfl rfl (r_call2 Tryz.call19 rfl rfl) (c_code_Encode N (frC 6 (frC 4 (frC 3 (frC 2 (frC 1 col_29))))) _ ra_3 rc_4 ra_6 rc_7 ra_9 rc_10 ra_12 rc_13 (r_1.1, r_1.2.1, r_1.2.2.1, r_1.2.2.2.1, r_1.2.2.2.2) a_27 2 [0, 1] (((((rh_5.toSlF Froz.str).froz 2).froz 3).froz 4).froz 6) (((((rh_8.froz 1 (by decide)).toSlF (Froz.row Froz.str)).froz 3).froz 4).froz 6) (((((rh_11.froz 1 (by decide)).froz 2 (by decide)).toSlF (Froz.row (Froz.int .i64))).froz 4).froz 6) (((((rh_14.froz 1 (by decide)).froz 2 (by decide)).froz 3 (by decide)).toSlF (Froz.row (Froz.pair (Froz.pair Froz.bool (Froz.row (Froz.int .u32))) (Froz.row (Froz.int .u32))))).froz 6) (((((h_31.froz 1 (by decide)).froz 2 (by decide)).froz 3 (by decide)).froz 4 (by decide)).toSlF (Froz.int .i64)) r_32 hr_33) ?_
 rintro _ w_34 ⟨rfl, hg_35⟩
 refine ⟨_, rfl, ?_⟩
 replace hg_35 : Grow col_29 w_28 col_29 w_34 := .of_below hg_35
 refine lM (.tuple #[(.string r_32.1), (.int .i64 r_32.2)]) ?_
 refine lV (.string r_32.1) (r_extract rfl rfl) ?_
 refine lV (.int .i64 r_32.2) (r_extract rfl rfl) ?_
 refine lA (.string r_32.1) ?_
 refine lA (.int .i64 r_32.2) ?_
 refine lN (wS (wR ?_))
 replace hb_26 := (hb_26.gr hg_30).gr hg_35
 refine lV (.agg #[(.string r_1.1), (.slice ra_3 r_1.2.1.length rc_4), (.slice ra_6 r_1.2.2.1.length rc_7), (.slice ra_9 r_1.2.2.2.1.length rc_10), (.slice ra_12 r_1.2.2.2.2.length rc_13)]) (r_ldN Tryz.isAgg28 Tryz.sizeOf28 rfl rfl hb_26.atN) ?_
 obtain ⟨r_36, hr_37, hm⟩ := bS hm
 replace rh_5 := rh_5.gr hg_35
 replace rh_8 := rh_8.gr hg_35
 replace rh_11 := rh_11.gr hg_35
 replace rh_14 := rh_14.gr hg_35
 refine lc rfl rfl (r_call2 Tryz.call20 rfl rfl) (c_code_Decode N 7 (frC 4 (frC 3 (frC 2 (frC 1 col_29)))) _ ra_3 rc_4 ra_6 rc_7 ra_9 rc_10 ra_12 rc_13 (r_1.1, r_1.2.1, r_1.2.2.1, r_1.2.2.2.1, r_1.2.2.2.2) (⟨#[49, 49, 49, 48]⟩) ((((rh_5.toSlF Froz.str).froz 2).froz 3).froz 4) ((((rh_8.froz 1 (by decide)).toSlF (Froz.row Froz.str)).froz 3).froz 4) ((((rh_11.froz 1 (by decide)).froz 2 (by decide)).toSlF (Froz.row (Froz.int .i64))).froz 4) ((((rh_14.froz 1 (by decide)).froz 2 (by decide)).froz 3 (by decide)).toSlF (Froz.row (Froz.pair (Froz.pair Froz.bool (Froz.row (Froz.int .u32))) (Froz.row (Froz.int .u32))))) r_36 hr_37) ?_
 rintro _ w_41 ⟨col_43, ra_38, rc_39, rfl, hg_42, rh_40⟩
 refine ⟨_, rfl, ?_⟩
 replace rh_40 := rh_40.thaw (flat_int .i64) hg_42 (((((Fz.refl (col := col_29)).froz 1).froz 2).froz 3).froz 4) (by decide)
 replace hg_42 := hg_42.thawR (col := col_29)
 generalize colR w_34.heap.size col_29 col_43 = col_44 at *
 refine lM (.tuple #[(.slice ra_38 r_36.1.length rc_39), (.int .i64 r_36.2.1), (.int .i64 r_36.2.2)]) ?_
 refine lV (.slice ra_38 r_36.1.length rc_39) (r_extract rfl rfl) ?_
 refine lV (.int .i64 r_36.2.1) (r_extract rfl rfl) ?_
 refine lV (.int .i64 r_36.2.2) (r_extract rfl rfl) ?_
 refine lA (.slice ra_38 r_36.1.length rc_39) ?_
 refine lA (.int .i64 r_36.2.1) ?_
 refine lA (.int .i64 r_36.2.2) ?_
 refine lN (wS (wR ?_))
 replace hb_26 := hb_26.gr hg_42
 refine lV (.agg #[(.string r_1.1), (.slice ra_3 r_1.2.1.length rc_4), (.slice ra_6 r_1.2.2.1.length rc_7), (.slice ra_9 r_1.2.2.2.1.length rc_10), (.slice ra_12 r_1.2.2.2.2.length rc_13)]) (r_ldN Tryz.isAgg28 Tryz.sizeOf28 rfl rfl hb_26.atN) ?_
 refine l_lit (col := col_44) (r := (Rep.int .i64)) (xs := [1, 0]) [(.int .i64 1), (.int .i64 0)] 8 rfl Tryz.underlying33 el3_7 rfl rfl rfl rfl rfl rfl (by intro v hv; simp only [List.mem_cons, List.not_mem_nil, or_false] at hv; rcases hv with rfl | rfl <;> rfl) (RowsH.ofF (Rows.consF (r := (Rep.int .i64)) (x := 1) (cs := [(.int .i64 1)]) (rd_int .i64 1) (Rows.consF (r := (Rep.int .i64)) (x := 0) (cs := [(.int .i64 0)]) (rd_int .i64 0) Rows.nil0))) ?_
 intro a_45 w_46 col_47 hg_48 h_49
 obtain ⟨r_50, hr_51, hm⟩ := bS hm
 replace rh_5 := (rh_5.gr hg_42).gr hg_48
 replace rh_8 := (rh_8.gr hg_42).gr hg_48
 replace rh_11 := (rh_11.gr hg_42).gr hg_48
 replace rh_14 := (rh_14.gr hg_42).gr hg_48
 refine lc rfl rfl (r_call2 Tryz.call21 rfl rfl) (c_code_Span N 9 10 11 12 (frC 8 (frC 4 (frC 3 (frC 2 (frC 1 col_47))))) _ ra_3 rc_4 ra_6 rc_7 ra_9 rc_10 ra_12 rc_13 (r_1.1, r_1.2.1, r_1.2.2.1, r_1.2.2.2.1, r_1.2.2.2.2) a_45 2 [1, 0] (((((rh_5.toSlF Froz.str).froz 2).froz 3).froz 4).froz 8) (((((rh_8.froz 1 (by decide)).toSlF (Froz.row Froz.str)).froz 3).froz 4).froz 8) (((((rh_11.froz 1 (by decide)).froz 2 (by decide)).toSlF (Froz.row (Froz.int .i64))).froz 4).froz 8) (((((rh_14.froz 1 (by decide)).froz 2 (by decide)).froz 3 (by decide)).toSlF (Froz.row (Froz.pair (Froz.pair Froz.bool (Froz.row (Froz.int .u32))) (Froz.row (Froz.int .u32))))).froz 8) (((((h_49.froz 1 (by decide)).froz 2 (by decide)).froz 3 (by decide)).froz 4 (by decide)).toSlF (Froz.int .i64)) r_50 hr_51) ?_
 rintro _ w_64 ⟨col_66, ra_52, rc_53, ra_55, rc_56, ra_58, rc_59, ra_61, rc_62, rfl, hg_65, rh_54, rh_57, rh_60, rh_63⟩
 refine ⟨_, rfl, ?_⟩
 replace rh_54 := rh_54.thaw (flat_int .u32) hg_65 ((((((Fz.refl (col := col_47)).froz 1).froz 2).froz 3).froz 4).froz 8) (by decide)
 replace rh_57 := rh_57.thaw (flat_int .u32) hg_65 ((((((Fz.refl (col := col_47)).froz 1).froz 2).froz 3).froz 4).froz 8) (by decide)
 replace rh_60 := rh_60.thaw (flat_int .u32) hg_65 ((((((Fz.refl (col := col_47)).froz 1).froz 2).froz 3).froz 4).froz 8) (by decide)
 replace rh_63 := rh_63.thaw (flat_int .u32) hg_65 ((((((Fz.refl (col := col_47)).froz 1).froz 2).froz 3).froz 4).froz 8) (by decide)
 replace hg_65 := hg_65.thawR (col := col_47)
 generalize colR w_46.heap.size col_47 col_66 = col_67 at *
 refine lM (.tuple #[(.agg #[(.bool r_50.1.1.1.1), (.slice ra_52 r_50.1.1.1.2.length rc_53), (.slice ra_55 r_50.1.1.2.length rc_56), (.bool r_50.1.2.1.1), (.slice ra_58 r_50.1.2.1.2.length rc_59), (.slice ra_61 r_50.1.2.2.length rc_62)]), (.int .i64 r_50.2)]) ?_
 refine lV (.agg #[(.bool r_50.1.1.1.1), (.slice ra_52 r_50.1.1.1.2.length rc_53), (.slice ra_55 r_50.1.1.2.length rc_56), (.bool r_50.1.2.1.1), (.slice ra_58 r_50.1.2.1.2.length rc_59), (.slice ra_61 r_50.1.2.2.length rc_62)]) (r_extract rfl rfl) ?_
 refine lV (.int .i64 r_50.2) (r_extract rfl rfl) ?_
 refine l_alloc (col := col_67) (v := (.agg #[(.bool false), (.slice none (([] : List Int).length) 0), (.slice none (([] : List Int).length) 0), (.bool false), (.slice none (([] : List Int).length) 0), (.slice none (([] : List Int).length) 0)])) 13 rfl Tryz.zeroValue62 ?_
 intro g_68 w_69 col_70 hg_71 hb_72
 replace hb_72 : Box 62 13 col_70 w_69 g_68 #[(.bool false), (.slice none (([] : List Int).length) 0), (.slice none (([] : List Int).length) 0), (.bool false), (.slice none (([] : List Int).length) 0), (.slice none (([] : List Int).length) 0)] := hb_72
 refine l_bstore (v := (.agg #[(.bool r_50.1.1.1.1), (.slice ra_52 r_50.1.1.1.2.length rc_53), (.slice ra_55 r_50.1.1.2.length rc_56), (.bool r_50.1.2.1.1), (.slice ra_58 r_50.1.2.1.2.length rc_59), (.slice ra_61 r_50.1.2.2.length rc_62)])) hb_72 Tryz.sizeOf62 rfl rfl (by intro u hu; simp only [Value.cells, List.mem_cons, List.not_mem_nil, or_false] at hu; rcases hu with rfl | rfl | rfl | rfl | rfl | rfl <;> rfl) rfl rfl ?_
 intro w_73 hk_74 hs_75 hb_76
 clear hb_72
 replace hb_76 : Box 62 13 col_70 w_73 g_68 #[(.bool r_50.1.1.1.1), (.slice ra_52 r_50.1.1.1.2.length rc_53), (.slice ra_55 r_50.1.1.2.length rc_56), (.bool r_50.1.2.1.1), (.slice ra_58 r_50.1.2.1.2.length rc_59), (.slice ra_61 r_50.1.2.2.length rc_62)] := hb_76
 refine lA (.int .i64 r_50.2) ?_
 refine lN (wS ?_)
 replace hst := (((((((((hst.grow hg_16).grow hg_21).kp hk_24 hs_25).grow hg_30).grow hg_35).grow hg_42).grow hg_48).grow hg_65).grow hg_71).kp hk_74 hs_75
 replace rh_40 := (((rh_40.gr hg_48).gr hg_65).gr hg_71).kp hk_74
 replace rh_54 := (rh_54.gr hg_71).kp hk_74
 replace rh_57 := (rh_57.gr hg_71).kp hk_74
 replace rh_60 := (rh_60.gr hg_71).kp hk_74
 replace rh_63 := (rh_63.gr hg_71).kp hk_74
 refine Wp.cut (fun f w_125 => ∃ (col_126 : Col) (v_127 : Bool), m_l26_alive_J1 v_127 = some r ∧ St w0 (col0 col) col_126 w_125 ∧ f 0 = (.bool v_127) ∧ f 1000000 = (enc [])) ?_ ?_
 ·intro f w_125 hJ
  obtain ⟨col_126, v_127, hm, hst, hs0, hs1000000⟩ := hJ
  rw [m_l26_alive_J1.eq_1] at hm
  refine .lD 0 hs0 ?_
  refine .lD 1000000 hs1000000 ?_
  clear hs0 hs1000000
  refine wret ?_
  cases hm
  exact ⟨rfl, rfl, hst.below⟩
 refine wR ?_
 refine lM (.int .i64 r_32.2) ?_
 refine lV (.bool (decide (r_32.2 = 0))) (r_eql r_32.2 0 rfl rfl) ?_
 refine lM (.bool (decide (r_32.2 = 0))) ?_
 by_cases hg_128 : (decide (r_32.2 = 0)) = true
 ·rw [if_pos hg_128] at hm
  refine lg (b := decide (r_32.2 = 0)) 30 rfl rfl rfl (by rw [hg_128]; rfl) ?_
  refine lM (.int .i64 r_36.2.2) ?_
  refine lg (b := decide (r_32.2 = 0)) 30 rfl rfl rfl (by rw [hg_128]; rfl) ?_
  refine lV (.bool (decide (r_36.2.2 = 0))) (r_eql r_36.2.2 0 rfl rfl) ?_
  refine lV (.bool (decide (r_36.2.2 = 0))) (r_pickT (congrArg Value.bool hg_128) rfl) ?_
  refine lM (.bool (decide (r_36.2.2 = 0))) ?_
  by_cases hg_129 : (decide (r_36.2.2 = 0)) = true
  ·rw [if_pos hg_129] at hm
   refine lg (b := decide (r_36.2.2 = 0)) 34 rfl rfl rfl (by rw [hg_129]; rfl) ?_
   refine lM (.int .i64 r_50.2) ?_
   refine lg (b := decide (r_36.2.2 = 0)) 34 rfl rfl rfl (by rw [hg_129]; rfl) ?_
   refine lV (.bool (decide (r_50.2 = 0))) (r_eql r_50.2 0 rfl rfl) ?_
   refine lV (.bool (decide (r_50.2 = 0))) (r_pickT (congrArg Value.bool hg_129) rfl) ?_
   refine lM (.bool (decide (r_50.2 = 0))) ?_
   by_cases hg_130 : (decide (r_50.2 = 0)) = true
   ·rw [if_pos hg_130] at hm
    refine lg (b := decide (r_50.2 = 0)) 38 rfl rfl rfl (by rw [hg_130]; rfl) ?_
    refine lM (.string r_32.1) ?_
    refine lg (b := decide (r_50.2 = 0)) 38 rfl rfl rfl (by rw [hg_130]; rfl) ?_
    refine lV (.bool (decide (r_32.1 = (⟨#[49, 49, 48, 48, 48]⟩)))) (r_eqlS r_32.1 (⟨#[49, 49, 48, 48, 48]⟩) Tryz.underlying9 rfl rfl) ?_
    refine lV (.bool (decide (r_32.1 = (⟨#[49, 49, 48, 48, 48]⟩)))) (r_pickT (congrArg Value.bool hg_130) rfl) ?_
    refine lM (.bool (decide (r_32.1 = (⟨#[49, 49, 48, 48, 48]⟩)))) ?_
    by_cases hg_131 : (decide (r_32.1 = (⟨#[49, 49, 48, 48, 48]⟩))) = true
    ·rw [if_pos hg_131] at hm
     refine lg (b := decide (r_32.1 = (⟨#[49, 49, 48, 48, 48]⟩))) 42 rfl rfl rfl (by rw [hg_131]; rfl) ?_
     refine lM (.int .i64 r_36.2.1) ?_
     refine lg (b := decide (r_32.1 = (⟨#[49, 49, 48, 48, 48]⟩))) 42 rfl rfl rfl (by rw [hg_131]; rfl) ?_
     refine lV (.bool (decide (r_36.2.1 = 3))) (r_eql r_36.2.1 3 rfl rfl) ?_
     refine lV (.bool (decide (r_36.2.1 = 3))) (r_pickT (congrArg Value.bool hg_131) rfl) ?_
     refine lM (.bool (decide (r_36.2.1 = 3))) ?_
     by_cases hg_132 : (decide (r_36.2.1 = 3)) = true
     ·rw [if_pos hg_132] at hm
      refine lg (b := decide (r_36.2.1 = 3)) 46 rfl rfl rfl (by rw [hg_132]; rfl) ?_
      refine lM (.slice ra_38 r_36.1.length rc_39) ?_
      refine lg (b := decide (r_36.2.1 = 3)) 46 rfl rfl rfl (by rw [hg_132]; rfl) ?_
      refine l_lit (col := col_70) (r := (Rep.int .i64)) (xs := [1, 1]) [(.int .i64 1), (.int .i64 1)] 16 rfl Tryz.underlying33 el3_7 rfl rfl rfl rfl rfl rfl (by intro v hv; simp only [List.mem_cons, List.not_mem_nil, or_false] at hv; rcases hv with rfl | rfl <;> rfl) (RowsH.ofF (Rows.consF (r := (Rep.int .i64)) (x := 1) (cs := [(.int .i64 1)]) (rd_int .i64 1) (Rows.consF (r := (Rep.int .i64)) (x := 1) (cs := [(.int .i64 1)]) (rd_int .i64 1) Rows.nil0))) ?_
      intro a_133 w_134 col_135 hg_136 h_137
      refine lg (b := decide (r_36.2.1 = 3)) 46 rfl rfl rfl (by rw [hg_132]; rfl) ?_
      obtain ⟨r_138, hr_139, hm⟩ := bS hm
      replace rh_40 := rh_40.gr hg_136
      refine lc rfl rfl (r_call2 Tryz.call22 rfl rfl) (c_r20_SameInts N (frC 16 (frC 7 col_135)) _ ra_38 rc_39 r_36.1 a_133 2 [1, 1] ((rh_40.toSlF (Froz.int .i64)).froz 16) ((h_137.froz 7 (by decide)).toSlF (Froz.int .i64)) r_138 hr_139) ?_
      rintro _ w_140 ⟨rfl, hg_141⟩
      refine ⟨_, rfl, ?_⟩
      replace hg_141 : Grow col_135 w_134 col_135 w_140 := .of_below hg_141
      refine lV (.bool r_138) (r_pickT (congrArg Value.bool hg_132) rfl) ?_
      refine lM (.bool r_138) ?_
      replace rh_54 := (rh_54.gr hg_136).gr hg_141
      replace rh_57 := (rh_57.gr hg_136).gr hg_141
      replace rh_60 := (rh_60.gr hg_136).gr hg_141
      replace rh_63 := (rh_63.gr hg_136).gr hg_141
      replace hb_76 := (hb_76.gr hg_136).gr hg_141
      replace hst := (hst.grow hg_136).grow hg_141
      by_cases hg_142 : r_138 = true
      ·rw [if_pos hg_142] at hm
       refine lg (b := r_138) 51 rfl rfl rfl (by rw [hg_142]; rfl) ?_
       refine lV (.pointer ((some (⟨g_68, 0, none⟩ : Addr)).map (·.add 0))) (rF (sz := 3) (off := 0) Tryz.underlying62 rfl Tryz.sizeOf40 (by decide) rfl rfl ⟨_, _, rfl⟩) ?_
       refine lg (b := r_138) 51 rfl rfl rfl (by rw [hg_142]; rfl) ?_
       refine lV (.agg #[(.bool r_50.1.1.1.1), (.slice ra_52 r_50.1.1.1.2.length rc_53), (.slice ra_55 r_50.1.1.2.length rc_56)]) (r_ldN Tryz.isAgg40 Tryz.sizeOf40 rfl rfl ((hb_76.atN).part 0 3 _ rfl)) ?_
       refine lg (b := r_138) 51 rfl rfl rfl (by rw [hg_142]; rfl) ?_
       obtain ⟨r_143, hr_144, hm⟩ := bS hm
       refine lc rfl rfl (r_call1 Tryz.call18 rfl) (c_frac_Text N (frC 10 (frC 9 col_135)) _ ra_52 rc_53 ra_55 rc_56 ((r_50.1.1.1.1, r_50.1.1.1.2), r_50.1.1.2) ((rh_54.toSlF (Froz.int .u32)).froz 10) ((rh_57.froz 9 (by decide)).toSlF (Froz.int .u32)) r_143 hr_144) ?_
       rintro _ w_145 ⟨rfl, hg_146⟩
       refine ⟨_, rfl, ?_⟩
       replace hg_146 : Grow col_135 w_140 col_135 w_145 := .of_below hg_146
       refine lg (b := r_138) 51 rfl rfl rfl (by rw [hg_142]; rfl) ?_
       refine lV (.bool (decide (r_143 = (⟨#[52, 47, 53]⟩)))) (r_eqlS r_143 (⟨#[52, 47, 53]⟩) Tryz.underlying9 rfl rfl) ?_
       refine lV (.bool (decide (r_143 = (⟨#[52, 47, 53]⟩)))) (r_pickT (congrArg Value.bool hg_142) rfl) ?_
       refine lM (.bool (decide (r_143 = (⟨#[52, 47, 53]⟩)))) ?_
       replace rh_60 := rh_60.gr hg_146
       replace rh_63 := rh_63.gr hg_146
       replace hb_76 := hb_76.gr hg_146
       replace hst := hst.grow hg_146
       by_cases hg_147 : (decide (r_143 = (⟨#[52, 47, 53]⟩))) = true
       ·rw [if_pos hg_147] at hm
        refine lg (b := decide (r_143 = (⟨#[52, 47, 53]⟩))) 57 rfl rfl rfl (by rw [hg_147]; rfl) ?_
        refine lV (.pointer ((some (⟨g_68, 0, none⟩ : Addr)).map (·.add 3))) (rF (sz := 3) (off := 3) Tryz.underlying62 rfl Tryz.sizeOf40 (by decide) rfl rfl ⟨_, _, rfl⟩) ?_
        refine lg (b := decide (r_143 = (⟨#[52, 47, 53]⟩))) 57 rfl rfl rfl (by rw [hg_147]; rfl) ?_
        refine lV (.agg #[(.bool r_50.1.2.1.1), (.slice ra_58 r_50.1.2.1.2.length rc_59), (.slice ra_61 r_50.1.2.2.length rc_62)]) (r_ldN Tryz.isAgg40 Tryz.sizeOf40 rfl rfl ((hb_76.atN).part 3 3 _ rfl)) ?_
        refine lg (b := decide (r_143 = (⟨#[52, 47, 53]⟩))) 57 rfl rfl rfl (by rw [hg_147]; rfl) ?_
        obtain ⟨r_148, hr_149, hm⟩ := bS hm
        refine lc rfl rfl (r_call1 Tryz.call18 rfl) (c_frac_Text N (frC 12 (frC 11 col_135)) _ ra_58 rc_59 ra_61 rc_62 ((r_50.1.2.1.1, r_50.1.2.1.2), r_50.1.2.2) ((rh_60.toSlF (Froz.int .u32)).froz 12) ((rh_63.froz 11 (by decide)).toSlF (Froz.int .u32)) r_148 hr_149) ?_
        rintro _ w_150 ⟨rfl, hg_151⟩
        refine ⟨_, rfl, ?_⟩
        replace hg_151 : Grow col_135 w_145 col_135 w_150 := .of_below hg_151
        refine lg (b := decide (r_143 = (⟨#[52, 47, 53]⟩))) 57 rfl rfl rfl (by rw [hg_147]; rfl) ?_
        refine lV (.bool (decide (r_148 = (⟨#[52, 49, 47, 53, 48]⟩)))) (r_eqlS r_148 (⟨#[52, 49, 47, 53, 48]⟩) Tryz.underlying9 rfl rfl) ?_
        refine lV (.bool (decide (r_148 = (⟨#[52, 49, 47, 53, 48]⟩)))) (r_pickT (congrArg Value.bool hg_147) rfl) ?_
        refine lA (.bool (decide (r_148 = (⟨#[52, 49, 47, 53, 48]⟩)))) ?_
        refine lN ?_
        replace hst := hst.grow hg_151
        exact ⟨col_135, (decide (r_148 = (⟨#[52, 49, 47, 53, 48]⟩))), hm, hst, rfl, rfl⟩
       rw [if_neg hg_147] at hm
       replace hg_147 := Bool.eq_false_iff.2 hg_147
       refine lp (b := decide (r_143 = (⟨#[52, 47, 53]⟩))) 57 rfl rfl rfl rfl (by rw [hg_147]; rfl) ?_
       refine lp (b := decide (r_143 = (⟨#[52, 47, 53]⟩))) 57 rfl rfl rfl rfl (by rw [hg_147]; rfl) ?_
       refine lp (b := decide (r_143 = (⟨#[52, 47, 53]⟩))) 57 rfl rfl rfl rfl (by rw [hg_147]; rfl) ?_
       refine lp (b := decide (r_143 = (⟨#[52, 47, 53]⟩))) 57 rfl rfl rfl rfl (by rw [hg_147]; rfl) ?_
       refine lV (.bool false) (r_pickF (congrArg Value.bool hg_147) rfl) ?_
       refine lA (.bool false) ?_
       refine lN ?_
       exact ⟨col_135, false, hm, hst, rfl, rfl⟩
      rw [if_neg hg_142] at hm
      replace hg_142 := Bool.eq_false_iff.2 hg_142
      refine lp (b := r_138) 51 rfl rfl rfl rfl (by rw [hg_142]; rfl) ?_
      refine lp (b := r_138) 51 rfl rfl rfl rfl (by rw [hg_142]; rfl) ?_
      refine lp (b := r_138) 51 rfl rfl rfl rfl (by rw [hg_142]; rfl) ?_
      refine lp (b := r_138) 51 rfl rfl rfl rfl (by rw [hg_142]; rfl) ?_
      refine lV (.bool false) (r_pickF (congrArg Value.bool hg_142) rfl) ?_
      refine lM (.bool false) ?_
      refine lp (b := false) 57 rfl rfl rfl rfl rfl ?_
      refine lp (b := false) 57 rfl rfl rfl rfl rfl ?_
      refine lp (b := false) 57 rfl rfl rfl rfl rfl ?_
      refine lp (b := false) 57 rfl rfl rfl rfl rfl ?_
      refine lV (.bool false) (r_pickF rfl rfl) ?_
      refine lA (.bool false) ?_
      refine lN ?_
      exact ⟨col_135, false, hm, hst, rfl, rfl⟩
     rw [if_neg hg_132] at hm
     replace hg_132 := Bool.eq_false_iff.2 hg_132
     refine lp (b := decide (r_36.2.1 = 3)) 46 rfl rfl rfl rfl (by rw [hg_132]; rfl) ?_
     refine lp (b := decide (r_36.2.1 = 3)) 46 rfl rfl rfl rfl (by rw [hg_132]; rfl) ?_
     refine lp (b := decide (r_36.2.1 = 3)) 46 rfl rfl rfl rfl (by rw [hg_132]; rfl) ?_
     refine lV (.bool false) (r_pickF (congrArg Value.bool hg_132) rfl) ?_
     refine lM (.bool false) ?_
     refine lp (b := false) 51 rfl rfl rfl rfl rfl ?_
     refine lp (b := false) 51 rfl rfl rfl rfl rfl ?_
     refine lp (b := false) 51 rfl rfl rfl rfl rfl ?_
     refine lp (b := false) 51 rfl rfl rfl rfl rfl ?_
     refine lV (.bool false) (r_pickF rfl rfl) ?_
     refine lM (.bool false) ?_
     refine lp (b := false) 57 rfl rfl rfl rfl rfl ?_
     refine lp (b := false) 57 rfl rfl rfl rfl rfl ?_
     refine lp (b := false) 57 rfl rfl rfl rfl rfl ?_
     refine lp (b := false) 57 rfl rfl rfl rfl rfl ?_
     refine lV (.bool false) (r_pickF rfl rfl) ?_
     refine lA (.bool false) ?_
     refine lN ?_
     exact ⟨col_70, false, hm, hst, rfl, rfl⟩
    rw [if_neg hg_131] at hm
    replace hg_131 := Bool.eq_false_iff.2 hg_131
    refine lp (b := decide (r_32.1 = (⟨#[49, 49, 48, 48, 48]⟩))) 42 rfl rfl rfl rfl (by rw [hg_131]; rfl) ?_
    refine lp (b := decide (r_32.1 = (⟨#[49, 49, 48, 48, 48]⟩))) 42 rfl rfl rfl rfl (by rw [hg_131]; rfl) ?_
    refine lV (.bool false) (r_pickF (congrArg Value.bool hg_131) rfl) ?_
    refine lM (.bool false) ?_
    refine lp (b := false) 46 rfl rfl rfl rfl rfl ?_
    refine lp (b := false) 46 rfl rfl rfl rfl rfl ?_
    refine lp (b := false) 46 rfl rfl rfl rfl rfl ?_
    refine lV (.bool false) (r_pickF rfl rfl) ?_
    refine lM (.bool false) ?_
    refine lp (b := false) 51 rfl rfl rfl rfl rfl ?_
    refine lp (b := false) 51 rfl rfl rfl rfl rfl ?_
    refine lp (b := false) 51 rfl rfl rfl rfl rfl ?_
    refine lp (b := false) 51 rfl rfl rfl rfl rfl ?_
    refine lV (.bool false) (r_pickF rfl rfl) ?_
    refine lM (.bool false) ?_
    refine lp (b := false) 57 rfl rfl rfl rfl rfl ?_
    refine lp (b := false) 57 rfl rfl rfl rfl rfl ?_
    refine lp (b := false) 57 rfl rfl rfl rfl rfl ?_
    refine lp (b := false) 57 rfl rfl rfl rfl rfl ?_
    refine lV (.bool false) (r_pickF rfl rfl) ?_
    refine lA (.bool false) ?_
    refine lN ?_
    exact ⟨col_70, false, hm, hst, rfl, rfl⟩
   rw [if_neg hg_130] at hm
   replace hg_130 := Bool.eq_false_iff.2 hg_130
   refine lp (b := decide (r_50.2 = 0)) 38 rfl rfl rfl rfl (by rw [hg_130]; rfl) ?_
   refine lp (b := decide (r_50.2 = 0)) 38 rfl rfl rfl rfl (by rw [hg_130]; rfl) ?_
   refine lV (.bool false) (r_pickF (congrArg Value.bool hg_130) rfl) ?_
   refine lM (.bool false) ?_
   refine lp (b := false) 42 rfl rfl rfl rfl rfl ?_
   refine lp (b := false) 42 rfl rfl rfl rfl rfl ?_
   refine lV (.bool false) (r_pickF rfl rfl) ?_
   refine lM (.bool false) ?_
   refine lp (b := false) 46 rfl rfl rfl rfl rfl ?_
   refine lp (b := false) 46 rfl rfl rfl rfl rfl ?_
   refine lp (b := false) 46 rfl rfl rfl rfl rfl ?_
   refine lV (.bool false) (r_pickF rfl rfl) ?_
   refine lM (.bool false) ?_
   refine lp (b := false) 51 rfl rfl rfl rfl rfl ?_
   refine lp (b := false) 51 rfl rfl rfl rfl rfl ?_
   refine lp (b := false) 51 rfl rfl rfl rfl rfl ?_
   refine lp (b := false) 51 rfl rfl rfl rfl rfl ?_
   refine lV (.bool false) (r_pickF rfl rfl) ?_
   refine lM (.bool false) ?_
   refine lp (b := false) 57 rfl rfl rfl rfl rfl ?_
   refine lp (b := false) 57 rfl rfl rfl rfl rfl ?_
   refine lp (b := false) 57 rfl rfl rfl rfl rfl ?_
   refine lp (b := false) 57 rfl rfl rfl rfl rfl ?_
   refine lV (.bool false) (r_pickF rfl rfl) ?_
   refine lA (.bool false) ?_
   refine lN ?_
   exact ⟨col_70, false, hm, hst, rfl, rfl⟩
  rw [if_neg hg_129] at hm
  replace hg_129 := Bool.eq_false_iff.2 hg_129
  refine lp (b := decide (r_36.2.2 = 0)) 34 rfl rfl rfl rfl (by rw [hg_129]; rfl) ?_
  refine lp (b := decide (r_36.2.2 = 0)) 34 rfl rfl rfl rfl (by rw [hg_129]; rfl) ?_
  refine lV (.bool false) (r_pickF (congrArg Value.bool hg_129) rfl) ?_
  refine lM (.bool false) ?_
  refine lp (b := false) 38 rfl rfl rfl rfl rfl ?_
  refine lp (b := false) 38 rfl rfl rfl rfl rfl ?_
  refine lV (.bool false) (r_pickF rfl rfl) ?_
  refine lM (.bool false) ?_
  refine lp (b := false) 42 rfl rfl rfl rfl rfl ?_
  refine lp (b := false) 42 rfl rfl rfl rfl rfl ?_
  refine lV (.bool false) (r_pickF rfl rfl) ?_
  refine lM (.bool false) ?_
  refine lp (b := false) 46 rfl rfl rfl rfl rfl ?_
  refine lp (b := false) 46 rfl rfl rfl rfl rfl ?_
  refine lp (b := false) 46 rfl rfl rfl rfl rfl ?_
  refine lV (.bool false) (r_pickF rfl rfl) ?_
  refine lM (.bool false) ?_
  refine lp (b := false) 51 rfl rfl rfl rfl rfl ?_
  refine lp (b := false) 51 rfl rfl rfl rfl rfl ?_
  refine lp (b := false) 51 rfl rfl rfl rfl rfl ?_
  refine lp (b := false) 51 rfl rfl rfl rfl rfl ?_
  refine lV (.bool false) (r_pickF rfl rfl) ?_
  refine lM (.bool false) ?_
  refine lp (b := false) 57 rfl rfl rfl rfl rfl ?_
  refine lp (b := false) 57 rfl rfl rfl rfl rfl ?_
  refine lp (b := false) 57 rfl rfl rfl rfl rfl ?_
  refine lp (b := false) 57 rfl rfl rfl rfl rfl ?_
  refine lV (.bool false) (r_pickF rfl rfl) ?_
  refine lA (.bool false) ?_
  refine lN ?_
  exact ⟨col_70, false, hm, hst, rfl, rfl⟩
 rw [if_neg hg_128] at hm
 replace hg_128 := Bool.eq_false_iff.2 hg_128
 refine lp (b := decide (r_32.2 = 0)) 30 rfl rfl rfl rfl (by rw [hg_128]; rfl) ?_
 refine lp (b := decide (r_32.2 = 0)) 30 rfl rfl rfl rfl (by rw [hg_128]; rfl) ?_
 refine lV (.bool false) (r_pickF (congrArg Value.bool hg_128) rfl) ?_
 refine lM (.bool false) ?_
 refine lp (b := false) 34 rfl rfl rfl rfl rfl ?_
 refine lp (b := false) 34 rfl rfl rfl rfl rfl ?_
 refine lV (.bool false) (r_pickF rfl rfl) ?_
 refine lM (.bool false) ?_
 refine lp (b := false) 38 rfl rfl rfl rfl rfl ?_
 refine lp (b := false) 38 rfl rfl rfl rfl rfl ?_
 refine lV (.bool false) (r_pickF rfl rfl) ?_
 refine lM (.bool false) ?_
 refine lp (b := false) 42 rfl rfl rfl rfl rfl ?_
 refine lp (b := false) 42 rfl rfl rfl rfl rfl ?_
 refine lV (.bool false) (r_pickF rfl rfl) ?_
 refine lM (.bool false) ?_
 refine lp (b := false) 46 rfl rfl rfl rfl rfl ?_
 refine lp (b := false) 46 rfl rfl rfl rfl rfl ?_
 refine lp (b := false) 46 rfl rfl rfl rfl rfl ?_
 refine lV (.bool false) (r_pickF rfl rfl) ?_
 refine lM (.bool false) ?_
 refine lp (b := false) 51 rfl rfl rfl rfl rfl ?_
 refine lp (b := false) 51 rfl rfl rfl rfl rfl ?_
 refine lp (b := false) 51 rfl rfl rfl rfl rfl ?_
 refine lp (b := false) 51 rfl rfl rfl rfl rfl ?_
 refine lV (.bool false) (r_pickF rfl rfl) ?_
 refine lM (.bool false) ?_
 refine lp (b := false) 57 rfl rfl rfl rfl rfl ?_
 refine lp (b := false) 57 rfl rfl rfl rfl rfl ?_
 refine lp (b := false) 57 rfl rfl rfl rfl rfl ?_
 refine lp (b := false) 57 rfl rfl rfl rfl rfl ?_
 refine lV (.bool false) (r_pickF rfl rfl) ?_
 refine lA (.bool false) ?_
 refine lN ?_
 exact ⟨col_70, false, hm, hst, rfl, rfl⟩
def m_l26_CodeNames_J1 (v_11 : Bool) : Option Bool :=
  some v_11
def m_l26_CodeNames (N : Nat)  : Option Bool :=
  (m_l26_alive N).bind fun r_12 => m_l26_CodeNames_J1 r_12
theorem c_l26_CodeNames (N : Nat) (col : Col) (w0 : World)  (r : Bool) (hm : m_l26_CodeNames N = some r) :
    Calls Tryz.prog 4 #[] w0 (fun e w' => e = .returned ((.bool r)) ∧ Below w0.heap.size w0 w') := by
 refine calls_of1 0 (m := 4) (args := []) Tryz.func4 rfl rfl rfl rfl rfl ?_
 rw [m_l26_CodeNames.eq_1] at hm
 have hst := St.start col w0
 refine wS (wR ?_)
 refine lA (.bool false) ?_
 refine lN (wS ?_)
 refine Wp.cut (fun f w_9 => ∃ (col_10 : Col) (v_11 : Bool), m_l26_CodeNames_J1 v_11 = some r ∧ St w0 (col0 col) col_10 w_9 ∧ f 0 = (.bool v_11) ∧ f 1000000 = (enc [])) ?_ ?_
 ·intro f w_9 hJ
  obtain ⟨col_10, v_11, hm, hst, hs0, hs1000000⟩ := hJ
  rw [m_l26_CodeNames_J1.eq_1] at hm
  refine .lD 0 hs0 ?_
  refine .lD 1000000 hs1000000 ?_
  clear hs0 hs1000000
  refine wret ?_
  cases hm
  exact ⟨rfl, rfl, hst.below⟩
 refine wR ?_
 refine lM (.bool true) ?_
 refine lg (b := true) 1 rfl rfl rfl rfl ?_
 obtain ⟨r_12, hr_13, hm⟩ := bS hm
 refine lc rfl rfl (r_call0 Tryz.call7 ) (c_l26_alive N (col0 col) _ r_12 hr_13) ?_
 rintro _ w_14 ⟨rfl, hg_15⟩
 refine ⟨_, rfl, ?_⟩
 replace hg_15 : Grow (col0 col) w0 (col0 col) w_14 := .of_below hg_15
 refine lV (.bool r_12) (r_pickT rfl rfl) ?_
 refine lA (.bool r_12) ?_
 refine lN ?_
 replace hst := hst.grow hg_15
 exact ⟨(col0 col), r_12, hm, hst, rfl, rfl⟩

end Go.Proofs.YtonkjfnjadofpaaGreat
