/-
  What functions of the program compute, as plain Lean functions (m_..), and proofs that they compute it (c_..). Printed by a program of the author; no conditions.
-/
import Derived.Test.YtgfaoflipkmpcaaRange
import Derived.Test.YtgfaoflipkmpcaaProg
import Derived.Test.YtgfaoflipkmpcaaRadixAskedF2
set_option linter.unusedVariables false
namespace Go.Proofs.Ytgfaoflipkmpcaa
open Go Go.RowKit


theorem el29_20 : ElemOk Try.prog 29 1 2 := ⟨Try.t29, _, rfl, rfl, rfl, rfl, rfl⟩

def m_credencelaw10_asked_credencelaw10_Small_J3 (v_167 : Bool) : Option Bool :=
  some v_167

def m_credencelaw10_asked_credencelaw10_Small_L2 (N : Nat) (p0_sizes : List Int) (p1_digits : List Int) (r_1 : (Nat × (List Int))) (r_9 : (Nat × (List Int))) (r_72 : ((List Int) × Int)) (r_89 : ((List Int) × Int)) : Nat → (List Int) → Int → Option Bool
  | 0, _, _ => none
  | n_128 + 1, long_133, x_135 => if (decide (x_135 < 7)) = true then (chk ((long_133.length + [98].length) * 2 ≤ 140737488355328 ∧ long_133.length + [98].length ≤ maxLen) ((m_credencelaw10_asked_credencelaw10_Small_L2 N p0_sizes p1_digits r_1 r_9 r_72 r_89 n_128) (long_133 ++ [98]) (IntKind.i64.wrap (x_135 + 1)))) else (if (decide ((long_133.length : Int) = (IntKind.i64.wrap ((r_89.1.length : Int) + 7)))) = true then ((m_credencelaw10_same_credencelaw10_Small N r_72.1 r_89.1).bind fun r_169 => if r_169 = true then ((m_credencelaw10_kept_credencelaw10_Small N r_1.1 r_1.2 p0_sizes).bind fun r_174 => if r_174 = true then ((m_credencelaw10_kept_credencelaw10_Small N r_9.1 r_9.2 p1_digits).bind fun r_179 => m_credencelaw10_asked_credencelaw10_Small_J3  r_179) else (m_credencelaw10_asked_credencelaw10_Small_J3  false)) else (m_credencelaw10_asked_credencelaw10_Small_J3  false)) else (m_credencelaw10_asked_credencelaw10_Small_J3  false))

def m_credencelaw10_asked_credencelaw10_Small_L1 (N : Nat) (p0_sizes : List Int) (p1_digits : List Int) (r_1 : (Nat × (List Int))) (r_9 : (Nat × (List Int))) (r_72 : ((List Int) × Int)) (r_89 : ((List Int) × Int)) : Nat → (List Int) → Int → Option Bool
  | 0, _, _ => none
  | n_112 + 1, a_117, x_119 => if (decide (x_119 < (a_117.length : Int))) = true then ((at? a_117 x_119).bind fun e_120 => (some (a_117.set (Int.toNat x_119) 99)).bind fun xs_127 => (m_credencelaw10_asked_credencelaw10_Small_L1 N p0_sizes p1_digits r_1 r_9 r_72 r_89 n_112) xs_127 (IntKind.i64.wrap (x_119 + 1))) else (m_credencelaw10_asked_credencelaw10_Small_L2 N p0_sizes p1_digits r_1 r_9 r_72 r_89 N a_117 0)

def m_credencelaw10_asked_credencelaw10_Small_J2 (N : Nat) (p0_sizes : List Int) (p1_digits : List Int) (r_1 : (Nat × (List Int))) (r_9 : (Nat × (List Int))) (r_63 : ((List Int) × Int)) (r_72 : ((List Int) × Int)) (r_89 : ((List Int) × Int)) (v_111 : Bool) : Option Bool :=
  if v_111 = true then (some false) else (m_credencelaw10_asked_credencelaw10_Small_L1 N p0_sizes p1_digits r_1 r_9 r_72 r_89 N r_63.1 0)

def m_credencelaw10_asked_credencelaw10_Small_J1 (N : Nat) (p0_sizes : List Int) (p1_digits : List Int) (p2_at : Int) (r_1 : (Nat × (List Int))) (r_9 : (Nat × (List Int))) (v_62 : Bool) : Option Bool :=
  if v_62 = true then (some false) else ((m_radix_Digits_credencelaw10_Small N (r_1.2.take r_1.1) p2_at).bind fun r_63 => (m_radix_Digits_credencelaw10_Small N (r_1.2.take r_1.1) p2_at).bind fun r_72 => (m_credencelaw10_plain_credencelaw10_Small N p0_sizes).bind fun r_81 => (m_credenceref10_Digits N r_81 p2_at).bind fun r_89 => if (!decide (r_63.2 = r_89.2)) = true then (m_credencelaw10_asked_credencelaw10_Small_J2 N p0_sizes p1_digits r_1 r_9 r_63 r_72 r_89 true) else (if (!decide (r_72.2 = r_89.2)) = true then (m_credencelaw10_asked_credencelaw10_Small_J2 N p0_sizes p1_digits r_1 r_9 r_63 r_72 r_89 true) else ((m_credencelaw10_same_credencelaw10_Small N r_63.1 r_89.1).bind fun r_185 => if (!r_185) = true then (m_credencelaw10_asked_credencelaw10_Small_J2 N p0_sizes p1_digits r_1 r_9 r_63 r_72 r_89 true) else ((m_credencelaw10_same_credencelaw10_Small N r_72.1 r_89.1).bind fun r_190 => m_credencelaw10_asked_credencelaw10_Small_J2 N p0_sizes p1_digits r_1 r_9 r_63 r_72 r_89 (!r_190)))))

def m_credencelaw10_asked_credencelaw10_Small (N : Nat) (p0_sizes : List Int) (p1_digits : List Int) (p2_at : Int) : Option Bool :=
  (m_credencelaw10_roomy_credencelaw10_Small N p0_sizes).bind fun r_1 => (m_credencelaw10_roomy_credencelaw10_Small N p1_digits).bind fun r_9 => (m_radix_Count_credencelaw10_Small (r_1.2.take r_1.1)).bind fun r_17 => (m_credencelaw10_plain_credencelaw10_Small N p0_sizes).bind fun r_21 => (m_credenceref10_Count N r_21).bind fun r_29 => (m_radix_At_credencelaw10_Small (r_1.2.take r_1.1) (r_9.2.take r_9.1)).bind fun r_33 => (m_credencelaw10_plain_credencelaw10_Small N p0_sizes).bind fun r_37 => (m_credencelaw10_plain_credencelaw10_Small N p1_digits).bind fun r_45 => (m_credenceref10_At N r_37 r_45).bind fun r_53 => if (!decide (r_17.1 = r_29.1)) = true then (m_credencelaw10_asked_credencelaw10_Small_J1 N p0_sizes p1_digits p2_at r_1 r_9 true) else (if (!decide (r_17.2 = r_29.2)) = true then (m_credencelaw10_asked_credencelaw10_Small_J1 N p0_sizes p1_digits p2_at r_1 r_9 true) else (if (!decide (r_33.1 = r_53.1)) = true then (m_credencelaw10_asked_credencelaw10_Small_J1 N p0_sizes p1_digits p2_at r_1 r_9 true) else (m_credencelaw10_asked_credencelaw10_Small_J1 N p0_sizes p1_digits p2_at r_1 r_9 (!decide (r_33.2 = r_53.2)))))

set_option maxRecDepth 100000 in
theorem c_credencelaw10_asked_credencelaw10_Small (N : Nat) (col : Col) (w0 : World) (a0 : Option Addr) (cap0 : Nat) (p0_sizes : List Int) (h0 : Sl (Rep.int .u16) col w0 a0 cap0 p0_sizes) (a1 : Option Addr) (cap1 : Nat) (p1_digits : List Int) (h1 : Sl (Rep.int .u16) col w0 a1 cap1 p1_digits) (p2_at : Int) (r : Bool) (hm : m_credencelaw10_asked_credencelaw10_Small N p0_sizes p1_digits p2_at = some r) :
    Calls Try.prog 20 #[(.slice a0 p0_sizes.length cap0), (.slice a1 p1_digits.length cap1), (.int .i64 p2_at)] w0 (fun e w' => e = .returned (.bool r) ∧ Below w0.heap.size w0 w') := by
  refine calls_of1 6 (m := 150) (args := [(.slice a0 p0_sizes.length cap0), (.slice a1 p1_digits.length cap1), (.int .i64 p2_at)]) Try.func20 rfl rfl rfl rfl rfl ?_
  rw [m_credencelaw10_asked_credencelaw10_Small.eq_1] at hm
  have hst := St.start col w0
  replace h0 := h0.keep (Stay.start col w0)
  replace h1 := h1.keep (Stay.start col w0)
  refine wseq ?_
  refine wregion ?_
  refine lv (v := (.bool false)) rfl rfl (r_assign rfl) ?_
  refine lnil ?_
  refine wseq ?_
  refine wregion ?_
  refine lv (v := (.slice a0 p0_sizes.length cap0)) rfl rfl (r_move rfl) ?_
  obtain ⟨r_1, hr_2, hm⟩ := bind_some hm
  refine lc rfl rfl (r_call1 Try.call34 rfl) (c_credencelaw10_roomy_credencelaw10_Small N 1 (col0 col) _ a0 cap0 p0_sizes h0 r_1 hr_2) ?_
  rintro _ w_6 ⟨col_8, a_3, cap_4, rfl, hg_7, h_5⟩
  refine ⟨_, rfl, ?_⟩
  replace h0 := h0.gr hg_7
  replace h1 := h1.gr hg_7
  replace hst := hst.grow hg_7
  refine lv (v := (.slice a_3 ((r_1.2.take r_1.1).length) cap_4)) rfl rfl (r_assign rfl) ?_
  refine lnil ?_
  refine wseq ?_
  refine wregion ?_
  refine lv (v := (.slice a1 p1_digits.length cap1)) rfl rfl (r_move rfl) ?_
  obtain ⟨r_9, hr_10, hm⟩ := bind_some hm
  refine lc rfl rfl (r_call1 Try.call34 rfl) (c_credencelaw10_roomy_credencelaw10_Small N 2 col_8 _ a1 cap1 p1_digits h1 r_9 hr_10) ?_
  rintro _ w_14 ⟨col_16, a_11, cap_12, rfl, hg_15, h_13⟩
  refine ⟨_, rfl, ?_⟩
  replace h0 := h0.gr hg_15
  replace h1 := h1.gr hg_15
  replace h_5 := h_5.gr hg_15
  replace hst := hst.grow hg_15
  refine lv (v := (.slice a_11 ((r_9.2.take r_9.1).length) cap_12)) rfl rfl (r_assign rfl) ?_
  refine lnil ?_
  refine wseq ?_
  refine wregion ?_
  refine lv (v := (.slice a_3 ((r_1.2.take r_1.1).length) cap_4)) rfl rfl (r_move rfl) ?_
  obtain ⟨r_17, hr_18, hm⟩ := bind_some hm
  refine lc rfl rfl (r_call1 Try.call40 rfl) (c_radix_Count_credencelaw10_Small (froz 1 col_16) _ a_3 cap_4 (r_1.2.take r_1.1) (((h_5).toSl).take r_1.1) r_17 hr_18) ?_
  rintro _ w_19 ⟨rfl, hg_20⟩
  refine ⟨_, rfl, ?_⟩
  have hg_20 : Grow col_16 w_14 col_16 w_19 := .of_below hg_20
  replace h0 := h0.gr hg_20
  replace h1 := h1.gr hg_20
  replace h_5 := h_5.gr hg_20
  replace h_13 := h_13.gr hg_20
  replace hst := hst.grow hg_20
  refine lv (v := (.tuple #[(.int .i64 r_17.1), (.int .i64 r_17.2)])) rfl rfl (r_move rfl) ?_
  refine lv (v := (.int .i64 r_17.1)) rfl rfl (r_extract rfl rfl) ?_
  refine lv (v := (.int .i64 r_17.2)) rfl rfl (r_extract rfl rfl) ?_
  refine lv (v := (.int .i64 r_17.1)) rfl rfl (r_assign rfl) ?_
  refine lv (v := (.int .i64 r_17.2)) rfl rfl (r_assign rfl) ?_
  refine lnil ?_
  refine wseq ?_
  refine wregion ?_
  refine lv (v := (.slice a0 p0_sizes.length cap0)) rfl rfl (r_move rfl) ?_
  obtain ⟨r_21, hr_22, hm⟩ := bind_some hm
  refine lc rfl rfl (r_call1 Try.call35 rfl) (c_credencelaw10_plain_credencelaw10_Small N 3 col_16 _ a0 cap0 p0_sizes h0 r_21 hr_22) ?_
  rintro _ w_26 ⟨col_28, a_23, cap_24, rfl, hg_27, h_25⟩
  refine ⟨_, rfl, ?_⟩
  replace h0 := h0.gr hg_27
  replace h1 := h1.gr hg_27
  replace h_5 := h_5.gr hg_27
  replace h_13 := h_13.gr hg_27
  replace hst := hst.grow hg_27
  obtain ⟨r_29, hr_30, hm⟩ := bind_some hm
  refine lc rfl rfl (r_call1 Try.call24 rfl) (c_credenceref10_Count N (froz 3 col_28) _ a_23 cap_24 r_21 ((h_25).toSl) r_29 hr_30) ?_
  rintro _ w_31 ⟨rfl, hg_32⟩
  refine ⟨_, rfl, ?_⟩
  have hg_32 : Grow col_28 w_26 col_28 w_31 := .of_below hg_32
  replace h0 := h0.gr hg_32
  replace h1 := h1.gr hg_32
  replace h_5 := h_5.gr hg_32
  replace h_13 := h_13.gr hg_32
  replace h_25 := h_25.gr hg_32
  replace hst := hst.grow hg_32
  refine lv (v := (.tuple #[(.int .i64 r_29.1), (.int .i64 r_29.2)])) rfl rfl (r_move rfl) ?_
  refine lv (v := (.int .i64 r_29.1)) rfl rfl (r_extract rfl rfl) ?_
  refine lv (v := (.int .i64 r_29.2)) rfl rfl (r_extract rfl rfl) ?_
  refine lv (v := (.int .i64 r_29.1)) rfl rfl (r_assign rfl) ?_
  refine lv (v := (.int .i64 r_29.2)) rfl rfl (r_assign rfl) ?_
  refine lnil ?_
  refine wseq ?_
  refine wregion ?_
  refine lv (v := (.slice a_3 ((r_1.2.take r_1.1).length) cap_4)) rfl rfl (r_move rfl) ?_
  refine lv (v := (.slice a_11 ((r_9.2.take r_9.1).length) cap_12)) rfl rfl (r_move rfl) ?_
  obtain ⟨r_33, hr_34, hm⟩ := bind_some hm
  refine lc rfl rfl (r_call2 Try.call45 rfl rfl) (c_radix_At_credencelaw10_Small (froz 2 (froz 1 col_28)) _ a_3 cap_4 (r_1.2.take r_1.1) ((((h_5).toSl).froz 2).take r_1.1) a_11 cap_12 (r_9.2.take r_9.1) ((((h_13).froz 1 (by decide)).toSl).take r_9.1) r_33 hr_34) ?_
  rintro _ w_35 ⟨rfl, hg_36⟩
  refine ⟨_, rfl, ?_⟩
  have hg_36 : Grow col_28 w_31 col_28 w_35 := .of_below hg_36
  replace h0 := h0.gr hg_36
  replace h1 := h1.gr hg_36
  replace h_5 := h_5.gr hg_36
  replace h_13 := h_13.gr hg_36
  replace h_25 := h_25.gr hg_36
  replace hst := hst.grow hg_36
  refine lv (v := (.tuple #[(.int .i64 r_33.1), (.int .i64 r_33.2)])) rfl rfl (r_move rfl) ?_
  refine lv (v := (.int .i64 r_33.1)) rfl rfl (r_extract rfl rfl) ?_
  refine lv (v := (.int .i64 r_33.2)) rfl rfl (r_extract rfl rfl) ?_
  refine lv (v := (.int .i64 r_33.1)) rfl rfl (r_assign rfl) ?_
  refine lv (v := (.int .i64 r_33.2)) rfl rfl (r_assign rfl) ?_
  refine lnil ?_
  refine wseq ?_
  refine wregion ?_
  refine lv (v := (.slice a0 p0_sizes.length cap0)) rfl rfl (r_move rfl) ?_
  obtain ⟨r_37, hr_38, hm⟩ := bind_some hm
  refine lc rfl rfl (r_call1 Try.call35 rfl) (c_credencelaw10_plain_credencelaw10_Small N 4 col_28 _ a0 cap0 p0_sizes h0 r_37 hr_38) ?_
  rintro _ w_42 ⟨col_44, a_39, cap_40, rfl, hg_43, h_41⟩
  refine ⟨_, rfl, ?_⟩
  replace h0 := h0.gr hg_43
  replace h1 := h1.gr hg_43
  replace h_5 := h_5.gr hg_43
  replace h_13 := h_13.gr hg_43
  replace h_25 := h_25.gr hg_43
  replace hst := hst.grow hg_43
  refine lv (v := (.slice a1 p1_digits.length cap1)) rfl rfl (r_move rfl) ?_
  obtain ⟨r_45, hr_46, hm⟩ := bind_some hm
  refine lc rfl rfl (r_call1 Try.call35 rfl) (c_credencelaw10_plain_credencelaw10_Small N 5 col_44 _ a1 cap1 p1_digits h1 r_45 hr_46) ?_
  rintro _ w_50 ⟨col_52, a_47, cap_48, rfl, hg_51, h_49⟩
  refine ⟨_, rfl, ?_⟩
  replace h0 := h0.gr hg_51
  replace h1 := h1.gr hg_51
  replace h_5 := h_5.gr hg_51
  replace h_13 := h_13.gr hg_51
  replace h_25 := h_25.gr hg_51
  replace h_41 := h_41.gr hg_51
  replace hst := hst.grow hg_51
  obtain ⟨r_53, hr_54, hm⟩ := bind_some hm
  refine lc rfl rfl (r_call2 Try.call42 rfl rfl) (c_credenceref10_At N (froz 5 (froz 4 col_52)) _ a_39 cap_40 r_37 (((h_41).toSl).froz 5) a_47 cap_48 r_45 (((h_49).froz 4 (by decide)).toSl) r_53 hr_54) ?_
  rintro _ w_55 ⟨rfl, hg_56⟩
  refine ⟨_, rfl, ?_⟩
  have hg_56 : Grow col_52 w_50 col_52 w_55 := .of_below hg_56
  replace h0 := h0.gr hg_56
  replace h1 := h1.gr hg_56
  replace h_5 := h_5.gr hg_56
  replace h_13 := h_13.gr hg_56
  replace h_25 := h_25.gr hg_56
  replace h_41 := h_41.gr hg_56
  replace h_49 := h_49.gr hg_56
  replace hst := hst.grow hg_56
  refine lv (v := (.tuple #[(.int .i64 r_53.1), (.int .i64 r_53.2)])) rfl rfl (r_move rfl) ?_
  refine lv (v := (.int .i64 r_53.1)) rfl rfl (r_extract rfl rfl) ?_
  refine lv (v := (.int .i64 r_53.2)) rfl rfl (r_extract rfl rfl) ?_
  refine lv (v := (.int .i64 r_53.1)) rfl rfl (r_assign rfl) ?_
  refine lv (v := (.int .i64 r_53.2)) rfl rfl (r_assign rfl) ?_
  refine lnil ?_
  refine wseq ?_
  refine wseq ?_
  refine Wp.cut (fun f w_60 => ∃ (col_61 : Col) (v_62 : Bool), m_credencelaw10_asked_credencelaw10_Small_J1 N p0_sizes p1_digits p2_at r_1 r_9 v_62 = some r ∧ St w0 (col0 col) col_61 w_60 ∧ Sl (Rep.int .u16) col_61 w_60 a0 cap0 p0_sizes ∧ Sl (Rep.int .u16) col_61 w_60 a1 cap1 p1_digits ∧ Own (Rep.int .u16) 29 1 col_61 w_60 a_3 cap_4 r_1.2 ∧ Own (Rep.int .u16) 29 2 col_61 w_60 a_11 cap_12 r_9.2 ∧ f 0 = (.slice a0 p0_sizes.length cap0) ∧ f 1 = (.slice a1 p1_digits.length cap1) ∧ f 2 = (.int .i64 p2_at) ∧ f 7 = (.slice a_3 ((r_1.2.take r_1.1).length) cap_4) ∧ f 8 = (.slice a_11 ((r_9.2.take r_9.1).length) cap_12) ∧ f 72 = (.bool v_62) ∧ f 1000000 = (enc [])) ?_ ?_
  · intro f w_60 hJ
    obtain ⟨col_61, v_62, hm, hst, h0, h1, h_5, h_13, hs0, hs1, hs2, hs7, hs8, hs72, hs1000000⟩ := hJ
    rw [m_credencelaw10_asked_credencelaw10_Small_J1.eq_1] at hm
    refine .ld (d := 0) (v := (.slice a0 p0_sizes.length cap0)) hs0 ?_
    refine .ld (d := 1) (v := (.slice a1 p1_digits.length cap1)) hs1 ?_
    refine .ld (d := 2) (v := (.int .i64 p2_at)) hs2 ?_
    refine .ld (d := 7) (v := (.slice a_3 ((r_1.2.take r_1.1).length) cap_4)) hs7 ?_
    refine .ld (d := 8) (v := (.slice a_11 ((r_9.2.take r_9.1).length) cap_12)) hs8 ?_
    refine .ld (d := 72) (v := (.bool v_62)) hs72 ?_
    refine .ld (d := 1000000) (v := (enc [])) hs1000000 ?_
    clear hs0 hs1 hs2 hs7 hs8 hs72 hs1000000
    refine wcond (v_62) rfl (fun hb => ?_) (fun hb => ?_)
    · rw [if_pos hb] at hm
      clear hb
      refine wseq ?_
      refine wregion ?_
      refine lv (v := (.bool false)) rfl rfl (r_assign rfl) ?_
      refine lnil ?_
      refine wret ?_
      cases hm
      exact ⟨rfl, rfl, hst.below⟩
    · rw [if_neg (by rw [hb]; decide)] at hm
      clear hb
      refine wskip ?_
      refine wseq ?_
      refine wregion ?_
      refine lv (v := (.slice a_3 ((r_1.2.take r_1.1).length) cap_4)) rfl rfl (r_move rfl) ?_
      refine lv (v := (.int .i64 p2_at)) rfl rfl (r_move rfl) ?_
      obtain ⟨r_63, hr_64, hm⟩ := bind_some hm
      refine lc rfl rfl (r_call2 Try.call46 rfl rfl) (c_radix_Digits_credencelaw10_Small N 6 (froz 1 col_61) _ a_3 cap_4 (r_1.2.take r_1.1) (((h_5).toSl).take r_1.1) p2_at r_63 hr_64) ?_
      rintro _ w_68 ⟨col_70, a_65, cap_66, rfl, hg_69, h_67⟩
      refine ⟨_, rfl, ?_⟩
      replace h_67 := h_67.thaw (flat_int .u16) hg_69 ((Fz.refl (col := col_61)).froz 1) (by decide)
      replace hg_69 := hg_69.thawR (col := col_61)
      generalize colR w_60.heap.size col_61 col_70 = col_71 at *
      replace h0 := h0.gr hg_69
      replace h1 := h1.gr hg_69
      replace h_5 := h_5.gr hg_69
      replace h_13 := h_13.gr hg_69
      replace hst := hst.grow hg_69
      refine lv (v := (.tuple #[(.slice a_65 r_63.1.length cap_66), (.int .i64 r_63.2)])) rfl rfl (r_move rfl) ?_
      refine lv (v := (.slice a_65 r_63.1.length cap_66)) rfl rfl (r_extract rfl rfl) ?_
      refine lv (v := (.int .i64 r_63.2)) rfl rfl (r_extract rfl rfl) ?_
      refine lv (v := (.slice a_65 r_63.1.length cap_66)) rfl rfl (r_assign rfl) ?_
      refine lv (v := (.int .i64 r_63.2)) rfl rfl (r_assign rfl) ?_
      refine lnil ?_
      refine wseq ?_
      refine wregion ?_
      refine lv (v := (.slice a_3 ((r_1.2.take r_1.1).length) cap_4)) rfl rfl (r_move rfl) ?_
      refine lv (v := (.int .i64 p2_at)) rfl rfl (r_move rfl) ?_
      obtain ⟨r_72, hr_73, hm⟩ := bind_some hm
      refine lc rfl rfl (r_call2 Try.call46 rfl rfl) (c_radix_Digits_credencelaw10_Small N 7 (froz 1 col_71) _ a_3 cap_4 (r_1.2.take r_1.1) (((h_5).toSl).take r_1.1) p2_at r_72 hr_73) ?_
      rintro _ w_77 ⟨col_79, a_74, cap_75, rfl, hg_78, h_76⟩
      refine ⟨_, rfl, ?_⟩
      replace h_76 := h_76.thaw (flat_int .u16) hg_78 ((Fz.refl (col := col_71)).froz 1) (by decide)
      replace hg_78 := hg_78.thawR (col := col_71)
      generalize colR w_68.heap.size col_71 col_79 = col_80 at *
      replace h0 := h0.gr hg_78
      replace h1 := h1.gr hg_78
      replace h_5 := h_5.gr hg_78
      replace h_13 := h_13.gr hg_78
      replace h_67 := h_67.gr hg_78
      replace hst := hst.grow hg_78
      refine lv (v := (.tuple #[(.slice a_74 r_72.1.length cap_75), (.int .i64 r_72.2)])) rfl rfl (r_move rfl) ?_
      refine lv (v := (.slice a_74 r_72.1.length cap_75)) rfl rfl (r_extract rfl rfl) ?_
      refine lv (v := (.int .i64 r_72.2)) rfl rfl (r_extract rfl rfl) ?_
      refine lv (v := (.slice a_74 r_72.1.length cap_75)) rfl rfl (r_assign rfl) ?_
      refine lv (v := (.int .i64 r_72.2)) rfl rfl (r_assign rfl) ?_
      refine lnil ?_
      refine wseq ?_
      refine wregion ?_
      refine lv (v := (.slice a0 p0_sizes.length cap0)) rfl rfl (r_move rfl) ?_
      obtain ⟨r_81, hr_82, hm⟩ := bind_some hm
      refine lc rfl rfl (r_call1 Try.call35 rfl) (c_credencelaw10_plain_credencelaw10_Small N 8 col_80 _ a0 cap0 p0_sizes h0 r_81 hr_82) ?_
      rintro _ w_86 ⟨col_88, a_83, cap_84, rfl, hg_87, h_85⟩
      refine ⟨_, rfl, ?_⟩
      replace h0 := h0.gr hg_87
      replace h1 := h1.gr hg_87
      replace h_5 := h_5.gr hg_87
      replace h_13 := h_13.gr hg_87
      replace h_67 := h_67.gr hg_87
      replace h_76 := h_76.gr hg_87
      replace hst := hst.grow hg_87
      refine lv (v := (.int .i64 p2_at)) rfl rfl (r_move rfl) ?_
      obtain ⟨r_89, hr_90, hm⟩ := bind_some hm
      refine lc rfl rfl (r_call2 Try.call27 rfl rfl) (c_credenceref10_Digits N 9 (froz 8 col_88) _ a_83 cap_84 r_81 ((h_85).toSl) p2_at r_89 hr_90) ?_
      rintro _ w_94 ⟨col_96, a_91, cap_92, rfl, hg_95, h_93⟩
      refine ⟨_, rfl, ?_⟩
      replace h_93 := h_93.thaw (flat_int .i64) hg_95 ((Fz.refl (col := col_88)).froz 8) (by decide)
      replace hg_95 := hg_95.thawR (col := col_88)
      generalize colR w_86.heap.size col_88 col_96 = col_97 at *
      replace h0 := h0.gr hg_95
      replace h1 := h1.gr hg_95
      replace h_5 := h_5.gr hg_95
      replace h_13 := h_13.gr hg_95
      replace h_67 := h_67.gr hg_95
      replace h_76 := h_76.gr hg_95
      replace h_85 := h_85.gr hg_95
      replace hst := hst.grow hg_95
      refine lv (v := (.tuple #[(.slice a_91 r_89.1.length cap_92), (.int .i64 r_89.2)])) rfl rfl (r_move rfl) ?_
      refine lv (v := (.slice a_91 r_89.1.length cap_92)) rfl rfl (r_extract rfl rfl) ?_
      refine lv (v := (.int .i64 r_89.2)) rfl rfl (r_extract rfl rfl) ?_
      refine lv (v := (.slice a_91 r_89.1.length cap_92)) rfl rfl (r_assign rfl) ?_
      refine lv (v := (.int .i64 r_89.2)) rfl rfl (r_assign rfl) ?_
      refine lnil ?_
      refine wseq ?_
      refine wseq ?_
      refine Wp.cut (fun f w_109 => ∃ (col_110 : Col) (v_111 : Bool), m_credencelaw10_asked_credencelaw10_Small_J2 N p0_sizes p1_digits r_1 r_9 r_63 r_72 r_89 v_111 = some r ∧ St w0 (col0 col) col_110 w_109 ∧ Sl (Rep.int .u16) col_110 w_109 a0 cap0 p0_sizes ∧ Sl (Rep.int .u16) col_110 w_109 a1 cap1 p1_digits ∧ Own (Rep.int .u16) 29 1 col_110 w_109 a_3 cap_4 r_1.2 ∧ Own (Rep.int .u16) 29 2 col_110 w_109 a_11 cap_12 r_9.2 ∧ Own (Rep.int .u16) 29 6 col_110 w_109 a_65 cap_66 r_63.1 ∧ Own (Rep.int .u16) 29 7 col_110 w_109 a_74 cap_75 r_72.1 ∧ Own (Rep.int .i64) 3 9 col_110 w_109 a_91 cap_92 r_89.1 ∧ f 0 = (.slice a0 p0_sizes.length cap0) ∧ f 1 = (.slice a1 p1_digits.length cap1) ∧ f 7 = (.slice a_3 ((r_1.2.take r_1.1).length) cap_4) ∧ f 8 = (.slice a_11 ((r_9.2.take r_9.1).length) cap_12) ∧ f 17 = (.slice a_65 r_63.1.length cap_66) ∧ f 19 = (.slice a_74 r_72.1.length cap_75) ∧ f 21 = (.slice a_91 r_89.1.length cap_92) ∧ f 111 = (.bool v_111) ∧ f 1000000 = (enc [])) ?_ ?_
      · intro f w_109 hJ
        obtain ⟨col_110, v_111, hm, hst, h0, h1, h_5, h_13, h_67, h_76, h_93, hs0, hs1, hs7, hs8, hs17, hs19, hs21, hs111, hs1000000⟩ := hJ
        rw [m_credencelaw10_asked_credencelaw10_Small_J2.eq_1] at hm
        refine .ld (d := 0) (v := (.slice a0 p0_sizes.length cap0)) hs0 ?_
        refine .ld (d := 1) (v := (.slice a1 p1_digits.length cap1)) hs1 ?_
        refine .ld (d := 7) (v := (.slice a_3 ((r_1.2.take r_1.1).length) cap_4)) hs7 ?_
        refine .ld (d := 8) (v := (.slice a_11 ((r_9.2.take r_9.1).length) cap_12)) hs8 ?_
        refine .ld (d := 17) (v := (.slice a_65 r_63.1.length cap_66)) hs17 ?_
        refine .ld (d := 19) (v := (.slice a_74 r_72.1.length cap_75)) hs19 ?_
        refine .ld (d := 21) (v := (.slice a_91 r_89.1.length cap_92)) hs21 ?_
        refine .ld (d := 111) (v := (.bool v_111)) hs111 ?_
        refine .ld (d := 1000000) (v := (enc [])) hs1000000 ?_
        clear hs0 hs1 hs7 hs8 hs17 hs19 hs21 hs111 hs1000000
        refine wcond (v_111) rfl (fun hb => ?_) (fun hb => ?_)
        · rw [if_pos hb] at hm
          clear hb
          refine wseq ?_
          refine wregion ?_
          refine lv (v := (.bool false)) rfl rfl (r_assign rfl) ?_
          refine lnil ?_
          refine wret ?_
          cases hm
          exact ⟨rfl, rfl, hst.below⟩
        · rw [if_neg (by rw [hb]; decide)] at hm
          clear hb
          refine wskip ?_
          refine wseq ?_
          refine wseq ?_
          refine wregion ?_
          refine lv (v := (.int .i64 0)) rfl rfl (r_assign rfl) ?_
          refine lnil ?_
          refine wblock ?_
          refine wloop (fun n f w_113 => ∃ (col_114 : Col) (a_115 : Option Addr) (cap_116 : Nat) (a_117 : List Int) (x_119 : Int) (n_112 : Nat), n_112 = n ∧ m_credencelaw10_asked_credencelaw10_Small_L1 N p0_sizes p1_digits r_1 r_9 r_72 r_89 n_112 a_117 x_119 = some r ∧ St w0 (col0 col) col_114 w_113 ∧ Sl (Rep.int .u16) col_114 w_113 a0 cap0 p0_sizes ∧ Sl (Rep.int .u16) col_114 w_113 a1 cap1 p1_digits ∧ Own (Rep.int .u16) 29 1 col_114 w_113 a_3 cap_4 r_1.2 ∧ Own (Rep.int .u16) 29 2 col_114 w_113 a_11 cap_12 r_9.2 ∧ Own (Rep.int .u16) 29 6 col_114 w_113 a_115 cap_116 a_117 ∧ Own (Rep.int .u16) 29 7 col_114 w_113 a_74 cap_75 r_72.1 ∧ Own (Rep.int .i64) 3 9 col_114 w_113 a_91 cap_92 r_89.1 ∧ f 0 = (.slice a0 p0_sizes.length cap0) ∧ f 1 = (.slice a1 p1_digits.length cap1) ∧ f 7 = (.slice a_3 ((r_1.2.take r_1.1).length) cap_4) ∧ f 8 = (.slice a_11 ((r_9.2.take r_9.1).length) cap_12) ∧ f 17 = (.slice a_115 a_117.length cap_116) ∧ f 19 = (.slice a_74 r_72.1.length cap_75) ∧ f 21 = (.slice a_91 r_89.1.length cap_92) ∧ f 23 = (.int .i64 x_119) ∧ f 1000000 = (enc [])) N ⟨col_110, a_65, cap_66, r_63.1, 0, N, rfl, hm, hst, h0, h1, h_5, h_13, h_67, h_76, h_93, rfl, rfl, rfl, rfl, rfl, rfl, rfl, rfl, rfl⟩ ?_
          clear hm; intro n f w_113 hI
          obtain ⟨col_114, a_115, cap_116, a_117, x_119, n_112, hn, hm, hst, h0, h1, h_5, h_13, h_118, h_76, h_93, hs0, hs1, hs7, hs8, hs17, hs19, hs21, hs23, hs1000000⟩ := hI
          subst hn
          refine .ld (d := 0) (v := (.slice a0 p0_sizes.length cap0)) hs0 ?_
          refine .ld (d := 1) (v := (.slice a1 p1_digits.length cap1)) hs1 ?_
          refine .ld (d := 7) (v := (.slice a_3 ((r_1.2.take r_1.1).length) cap_4)) hs7 ?_
          refine .ld (d := 8) (v := (.slice a_11 ((r_9.2.take r_9.1).length) cap_12)) hs8 ?_
          refine .ld (d := 17) (v := (.slice a_115 a_117.length cap_116)) hs17 ?_
          refine .ld (d := 19) (v := (.slice a_74 r_72.1.length cap_75)) hs19 ?_
          refine .ld (d := 21) (v := (.slice a_91 r_89.1.length cap_92)) hs21 ?_
          refine .ld (d := 23) (v := (.int .i64 x_119)) hs23 ?_
          refine .ld (d := 1000000) (v := (enc [])) hs1000000 ?_
          clear hs0 hs1 hs7 hs8 hs17 hs19 hs21 hs23 hs1000000
          cases n_112 with
          | zero => rw [m_credencelaw10_asked_credencelaw10_Small_L1.eq_1] at hm; cases hm
          | succ n_112 =>
            rw [m_credencelaw10_asked_credencelaw10_Small_L1.eq_2] at hm
            refine wseq ?_
            refine wseq ?_
            refine wregion ?_
            refine lv (v := (.int .i64 x_119)) rfl rfl (r_move rfl) ?_
            refine lv (v := (.slice a_115 a_117.length cap_116)) rfl rfl (r_move rfl) ?_
            refine lv (v := (.int .i64 (a_117.length : Int))) rfl rfl (r_len Try.underlying30 rfl) ?_
            refine lv (v := (.bool (decide (x_119 < (a_117.length : Int))))) rfl rfl (r_lss x_119 (a_117.length : Int) rfl rfl) ?_
            refine lnil ?_
            refine wcond (decide (x_119 < (a_117.length : Int))) rfl (fun hb => ?_) (fun hb => ?_)
            · rw [if_pos hb] at hm
              clear hb
              refine wskip ?_
              refine wseq ?_
              refine wblock ?_
              refine wregion ?_
              refine lv (v := (.slice a_115 a_117.length cap_116)) rfl rfl (r_move rfl) ?_
              refine lv (v := (.int .i64 x_119)) rfl rfl (r_move rfl) ?_
              obtain ⟨e_120, hj_121, hm⟩ := bind_some hm
              refine lv (v := (sptr a_115 (Int.toNat x_119 * 1))) rfl rfl (r_idx Try.underlying30 Try.sizeOf29 rfl rfl (at?_some hj_121).1 (at?_some hj_121).2.1 (h_118.addr hj_121)) ?_
              obtain ⟨xs_127, hz_126, hm⟩ := bind_some hm
              have hz_126 : xs_127 = a_117.set (Int.toNat x_119) 99 := (Option.some.inj hz_126).symm
              refine l_store (x1 := 99) (v := (.int .u16 99)) h_118 hj_121 rfl Try.sizeOf29 rfl rfl rfl (by decide) ?_
              intro w_122 hk_123 hs_124 h_125
              rw [← hz_126] at h_125
              replace h0 := h0.kp hk_123 (by decide)
              replace h1 := h1.kp hk_123 (by decide)
              replace h_5 := h_5.kp hk_123 (by decide) (by decide)
              replace h_13 := h_13.kp hk_123 (by decide) (by decide)
              replace h_76 := h_76.kp hk_123 (by decide) (by decide)
              replace h_93 := h_93.kp hk_123 (by decide) (by decide)
              replace hst := hst.kp hk_123 hs_124 (by decide) (by decide)
              refine .ld (d := 17) (v := (.slice a_115 xs_127.length cap_116)) (congrArg (fun n => Value.slice a_115 n cap_116) (show a_117.length = xs_127.length by rw [hz_126, List.length_set])) ?_
              refine .ld (d := 113) (v := (.slice a_115 xs_127.length cap_116)) (congrArg (fun n => Value.slice a_115 n cap_116) (show a_117.length = xs_127.length by rw [hz_126, List.length_set])) ?_
              refine .ld (d := 118) (v := (.slice a_115 xs_127.length cap_116)) (congrArg (fun n => Value.slice a_115 n cap_116) (show a_117.length = xs_127.length by rw [hz_126, List.length_set])) ?_
              clear h_118
              refine lnil ?_
              refine wregion ?_
              refine lv (v := (.int .i64 x_119)) rfl rfl (r_move rfl) ?_
              refine lv (v := (.int .i64 (IntKind.i64.wrap (x_119 + 1)))) rfl rfl (r_add x_119 1 rfl rfl) ?_
              refine lv (v := (.int .i64 (IntKind.i64.wrap (x_119 + 1)))) rfl rfl (r_assign rfl) ?_
              refine lnil ?_
              exact ⟨n_112, by omega, ⟨col_114, a_115, cap_116, xs_127, (IntKind.i64.wrap (x_119 + 1)), n_112, rfl, hm, hst, h0, h1, h_5, h_13, h_125, h_76, h_93, rfl, rfl, rfl, rfl, rfl, rfl, rfl, rfl, rfl⟩⟩
            · rw [if_neg (by rw [hb]; decide)] at hm
              clear hb
              refine wexit (inB_hit ?_)
              refine wseq ?_
              refine wregion ?_
              refine lv (v := (.slice a_115 a_117.length cap_116)) rfl rfl (r_move rfl) ?_
              refine lv (v := (.slice a_115 a_117.length cap_116)) rfl rfl (r_assign rfl) ?_
              refine lnil ?_
              refine wseq ?_
              refine wseq ?_
              refine wregion ?_
              refine lv (v := (.int .i64 0)) rfl rfl (r_assign rfl) ?_
              refine lnil ?_
              refine wblock ?_
              refine wloop (fun n f w_129 => ∃ (col_130 : Col) (a_131 : Option Addr) (cap_132 : Nat) (long_133 : List Int) (x_135 : Int) (n_128 : Nat), n_128 = n ∧ m_credencelaw10_asked_credencelaw10_Small_L2 N p0_sizes p1_digits r_1 r_9 r_72 r_89 n_128 long_133 x_135 = some r ∧ St w0 (col0 col) col_130 w_129 ∧ Sl (Rep.int .u16) col_130 w_129 a0 cap0 p0_sizes ∧ Sl (Rep.int .u16) col_130 w_129 a1 cap1 p1_digits ∧ Own (Rep.int .u16) 29 1 col_130 w_129 a_3 cap_4 r_1.2 ∧ Own (Rep.int .u16) 29 2 col_130 w_129 a_11 cap_12 r_9.2 ∧ Own (Rep.int .u16) 29 7 col_130 w_129 a_74 cap_75 r_72.1 ∧ Own (Rep.int .i64) 3 9 col_130 w_129 a_91 cap_92 r_89.1 ∧ Own (Rep.int .u16) 29 6 col_130 w_129 a_131 cap_132 long_133 ∧ f 0 = (.slice a0 p0_sizes.length cap0) ∧ f 1 = (.slice a1 p1_digits.length cap1) ∧ f 7 = (.slice a_3 ((r_1.2.take r_1.1).length) cap_4) ∧ f 8 = (.slice a_11 ((r_9.2.take r_9.1).length) cap_12) ∧ f 19 = (.slice a_74 r_72.1.length cap_75) ∧ f 21 = (.slice a_91 r_89.1.length cap_92) ∧ f 24 = (.slice a_131 long_133.length cap_132) ∧ f 25 = (.int .i64 x_135) ∧ f 1000000 = (enc [])) N ⟨col_114, a_115, cap_116, a_117, 0, N, rfl, hm, hst, h0, h1, h_5, h_13, h_76, h_93, h_118, rfl, rfl, rfl, rfl, rfl, rfl, rfl, rfl, rfl⟩ ?_
              clear hm; intro n f w_129 hI
              obtain ⟨col_130, a_131, cap_132, long_133, x_135, n_128, hn, hm, hst, h0, h1, h_5, h_13, h_76, h_93, h_134, hs0, hs1, hs7, hs8, hs19, hs21, hs24, hs25, hs1000000⟩ := hI
              subst hn
              refine .ld (d := 0) (v := (.slice a0 p0_sizes.length cap0)) hs0 ?_
              refine .ld (d := 1) (v := (.slice a1 p1_digits.length cap1)) hs1 ?_
              refine .ld (d := 7) (v := (.slice a_3 ((r_1.2.take r_1.1).length) cap_4)) hs7 ?_
              refine .ld (d := 8) (v := (.slice a_11 ((r_9.2.take r_9.1).length) cap_12)) hs8 ?_
              refine .ld (d := 19) (v := (.slice a_74 r_72.1.length cap_75)) hs19 ?_
              refine .ld (d := 21) (v := (.slice a_91 r_89.1.length cap_92)) hs21 ?_
              refine .ld (d := 24) (v := (.slice a_131 long_133.length cap_132)) hs24 ?_
              refine .ld (d := 25) (v := (.int .i64 x_135)) hs25 ?_
              refine .ld (d := 1000000) (v := (enc [])) hs1000000 ?_
              clear hs0 hs1 hs7 hs8 hs19 hs21 hs24 hs25 hs1000000
              cases n_128 with
              | zero => rw [m_credencelaw10_asked_credencelaw10_Small_L2.eq_1] at hm; cases hm
              | succ n_128 =>
                rw [m_credencelaw10_asked_credencelaw10_Small_L2.eq_2] at hm
                refine wseq ?_
                refine wseq ?_
                refine wregion ?_
                refine lv (v := (.int .i64 x_135)) rfl rfl (r_move rfl) ?_
                refine lv (v := (.bool (decide (x_135 < 7)))) rfl rfl (r_lss x_135 7 rfl rfl) ?_
                refine lnil ?_
                refine wcond (decide (x_135 < 7)) rfl (fun hb => ?_) (fun hb => ?_)
                · rw [if_pos hb] at hm
                  clear hb
                  refine wskip ?_
                  refine wseq ?_
                  refine wblock ?_
                  refine wregion ?_
                  refine lv (v := (.slice a_131 long_133.length cap_132)) rfl rfl (r_move rfl) ?_
                  refine l_lit (col := col_130) (r := (Rep.int .u16)) (xs := [98]) [(.int .u16 98)] 10 rfl Try.underlying30 el29_20 rfl rfl rfl rfl rfl rfl (by intro v hv; simp only [List.mem_cons, List.not_mem_nil, or_false] at hv; subst hv; rfl) ⟨_, _, rfl, rfl, rfl⟩ ?_
                  intro a_136 w_137 col_138 hg_139 h_140
                  replace h0 := h0.gr hg_139
                  replace h1 := h1.gr hg_139
                  replace h_5 := h_5.gr hg_139
                  replace h_13 := h_13.gr hg_139
                  replace h_76 := h_76.gr hg_139
                  replace h_93 := h_93.gr hg_139
                  replace h_134 := h_134.gr hg_139
                  replace hst := hst.grow hg_139
                  replace h0 := h0.froz 10
                  replace h1 := h1.froz 10
                  replace h_5 := h_5.froz 10 (by decide)
                  replace h_13 := h_13.froz 10 (by decide)
                  replace h_76 := h_76.froz 10 (by decide)
                  replace h_93 := h_93.froz 10 (by decide)
                  replace h_134 := h_134.froz 10 (by decide)
                  replace hst := hst.froz 10 (by decide) (by decide)
                  replace h_140 := h_140.toSl
                  obtain ⟨hb_141, hm⟩ := chk_some hm
                  refine l_append (col := (froz 10 col_138)) (w := w_137) (r := (Rep.int .u16)) (c := 6) (xs := long_133) (ys := [98]) h_134 h_140 rfl Try.underlying30 el29_20 rfl rfl rfl hb_141.1 hb_141.2 (by decide) ?_
                  intro a_143 cap_144 w_145 col_146 hk_147 hs_148 h_149
                  replace h0 := h0.kp hk_147 (by decide)
                  replace h1 := h1.kp hk_147 (by decide)
                  replace h_5 := h_5.kp hk_147 (by decide) (by decide)
                  replace h_13 := h_13.kp hk_147 (by decide) (by decide)
                  replace h_76 := h_76.kp hk_147 (by decide) (by decide)
                  replace h_93 := h_93.kp hk_147 (by decide) (by decide)
                  replace h_140 := h_140.kp hk_147 (by decide)
                  replace hst := hst.kp hk_147 hs_148 (by decide) (by decide)
                  clear h_134
                  refine lv (v := (.slice a_143 ((long_133 ++ [98]).length) cap_144)) rfl rfl (r_assign rfl) ?_
                  refine lnil ?_
                  refine wregion ?_
                  refine lv (v := (.int .i64 x_135)) rfl rfl (r_move rfl) ?_
                  refine lv (v := (.int .i64 (IntKind.i64.wrap (x_135 + 1)))) rfl rfl (r_add x_135 1 rfl rfl) ?_
                  refine lv (v := (.int .i64 (IntKind.i64.wrap (x_135 + 1)))) rfl rfl (r_assign rfl) ?_
                  refine lnil ?_
                  exact ⟨n_128, by omega, ⟨col_146, a_143, cap_144, (long_133 ++ [98]), (IntKind.i64.wrap (x_135 + 1)), n_128, rfl, hm, hst, h0, h1, h_5, h_13, h_76, h_93, h_149, rfl, rfl, rfl, rfl, rfl, rfl, rfl, rfl, rfl⟩⟩
                · rw [if_neg (by rw [hb]; decide)] at hm
                  clear hb
                  refine wexit (inB_hit ?_)
                  refine wseq ?_
                  refine Wp.cut (fun f w_165 => ∃ (col_166 : Col) (v_167 : Bool), m_credencelaw10_asked_credencelaw10_Small_J3  v_167 = some r ∧ St w0 (col0 col) col_166 w_165 ∧ f 6 = (.bool v_167) ∧ f 1000000 = (enc [])) ?_ ?_
                  · intro f w_165 hJ
                    obtain ⟨col_166, v_167, hm, hst, hs6, hs1000000⟩ := hJ
                    rw [m_credencelaw10_asked_credencelaw10_Small_J3.eq_1] at hm
                    refine .ld (d := 6) (v := (.bool v_167)) hs6 ?_
                    refine .ld (d := 1000000) (v := (enc [])) hs1000000 ?_
                    clear hs6 hs1000000
                    refine wret ?_
                    cases hm
                    exact ⟨rfl, rfl, hst.below⟩
                  · refine wregion ?_
                    refine lv (v := (.slice a_131 long_133.length cap_132)) rfl rfl (r_move rfl) ?_
                    refine lv (v := (.int .i64 (long_133.length : Int))) rfl rfl (r_len Try.underlying30 rfl) ?_
                    refine lv (v := (.slice a_91 r_89.1.length cap_92)) rfl rfl (r_move rfl) ?_
                    refine lv (v := (.int .i64 (r_89.1.length : Int))) rfl rfl (r_len Try.underlying22 rfl) ?_
                    refine lv (v := (.int .i64 (IntKind.i64.wrap ((r_89.1.length : Int) + 7)))) rfl rfl (r_add (r_89.1.length : Int) 7 rfl rfl) ?_
                    refine lv (v := (.bool (decide ((long_133.length : Int) = (IntKind.i64.wrap ((r_89.1.length : Int) + 7)))))) rfl rfl (r_eql (long_133.length : Int) (IntKind.i64.wrap ((r_89.1.length : Int) + 7)) rfl rfl) ?_
                    refine lv (v := (.bool (decide ((long_133.length : Int) = (IntKind.i64.wrap ((r_89.1.length : Int) + 7)))))) rfl rfl (r_move rfl) ?_
                    by_cases hg_168 : (decide ((long_133.length : Int) = (IntKind.i64.wrap ((r_89.1.length : Int) + 7)))) = true
                    · rw [if_pos hg_168] at hm
                      refine lg (b := decide ((long_133.length : Int) = (IntKind.i64.wrap ((r_89.1.length : Int) + 7)))) 135 rfl rfl rfl (by rw [hg_168]; rfl) ?_
                      refine lv (v := (.slice a_74 r_72.1.length cap_75)) rfl rfl (r_move rfl) ?_
                      refine lg (b := decide ((long_133.length : Int) = (IntKind.i64.wrap ((r_89.1.length : Int) + 7)))) 135 rfl rfl rfl (by rw [hg_168]; rfl) ?_
                      refine lv (v := (.slice a_91 r_89.1.length cap_92)) rfl rfl (r_move rfl) ?_
                      refine lg (b := decide ((long_133.length : Int) = (IntKind.i64.wrap ((r_89.1.length : Int) + 7)))) 135 rfl rfl rfl (by rw [hg_168]; rfl) ?_
                      obtain ⟨r_169, hr_170, hm⟩ := bind_some hm
                      refine lc rfl rfl (r_call2 Try.call38 rfl rfl) (c_credencelaw10_same_credencelaw10_Small N (froz 9 (froz 7 col_130)) _ a_74 cap_75 r_72.1 (((h_76).toSl).froz 9) a_91 cap_92 r_89.1 (((h_93).froz 7 (by decide)).toSl) r_169 hr_170) ?_
                      rintro _ w_171 ⟨rfl, hg_172⟩
                      refine ⟨_, rfl, ?_⟩
                      have hg_172 : Grow col_130 w_129 col_130 w_171 := .of_below hg_172
                      replace h0 := h0.gr hg_172
                      replace h1 := h1.gr hg_172
                      replace h_5 := h_5.gr hg_172
                      replace h_13 := h_13.gr hg_172
                      replace h_76 := h_76.gr hg_172
                      replace h_93 := h_93.gr hg_172
                      replace h_134 := h_134.gr hg_172
                      replace hst := hst.grow hg_172
                      refine lv (v := (.bool r_169)) rfl rfl (r_pickT (congrArg Value.bool hg_168) rfl) ?_
                      refine lv (v := (.bool r_169)) rfl rfl (r_move rfl) ?_
                      by_cases hg_173 : r_169 = true
                      · rw [if_pos hg_173] at hm
                        refine lg (b := r_169) 140 rfl rfl rfl (by rw [hg_173]; rfl) ?_
                        refine lv (v := (.slice a_3 ((r_1.2.take r_1.1).length) cap_4)) rfl rfl (r_move rfl) ?_
                        refine lg (b := r_169) 140 rfl rfl rfl (by rw [hg_173]; rfl) ?_
                        refine lv (v := (.slice a0 p0_sizes.length cap0)) rfl rfl (r_move rfl) ?_
                        refine lg (b := r_169) 140 rfl rfl rfl (by rw [hg_173]; rfl) ?_
                        obtain ⟨r_174, hr_175, hm⟩ := bind_some hm
                        refine lc rfl rfl (r_call2 Try.call37 rfl rfl) (c_credencelaw10_kept_credencelaw10_Small N (froz 1 col_130) _ a_3 cap_4 r_1.1 r_1.2 ((h_5).toSl) a0 cap0 p0_sizes (h0.froz 1) r_174 hr_175) ?_
                        rintro _ w_176 ⟨rfl, hg_177⟩
                        refine ⟨_, rfl, ?_⟩
                        have hg_177 : Grow col_130 w_171 col_130 w_176 := .of_below hg_177
                        replace h0 := h0.gr hg_177
                        replace h1 := h1.gr hg_177
                        replace h_5 := h_5.gr hg_177
                        replace h_13 := h_13.gr hg_177
                        replace h_76 := h_76.gr hg_177
                        replace h_93 := h_93.gr hg_177
                        replace h_134 := h_134.gr hg_177
                        replace hst := hst.grow hg_177
                        refine lv (v := (.bool r_174)) rfl rfl (r_pickT (congrArg Value.bool hg_173) rfl) ?_
                        refine lv (v := (.bool r_174)) rfl rfl (r_move rfl) ?_
                        by_cases hg_178 : r_174 = true
                        · rw [if_pos hg_178] at hm
                          refine lg (b := r_174) 145 rfl rfl rfl (by rw [hg_178]; rfl) ?_
                          refine lv (v := (.slice a_11 ((r_9.2.take r_9.1).length) cap_12)) rfl rfl (r_move rfl) ?_
                          refine lg (b := r_174) 145 rfl rfl rfl (by rw [hg_178]; rfl) ?_
                          refine lv (v := (.slice a1 p1_digits.length cap1)) rfl rfl (r_move rfl) ?_
                          refine lg (b := r_174) 145 rfl rfl rfl (by rw [hg_178]; rfl) ?_
                          obtain ⟨r_179, hr_180, hm⟩ := bind_some hm
                          refine lc rfl rfl (r_call2 Try.call37 rfl rfl) (c_credencelaw10_kept_credencelaw10_Small N (froz 2 col_130) _ a_11 cap_12 r_9.1 r_9.2 ((h_13).toSl) a1 cap1 p1_digits (h1.froz 2) r_179 hr_180) ?_
                          rintro _ w_181 ⟨rfl, hg_182⟩
                          refine ⟨_, rfl, ?_⟩
                          have hg_182 : Grow col_130 w_176 col_130 w_181 := .of_below hg_182
                          replace h0 := h0.gr hg_182
                          replace h1 := h1.gr hg_182
                          replace h_5 := h_5.gr hg_182
                          replace h_13 := h_13.gr hg_182
                          replace h_76 := h_76.gr hg_182
                          replace h_93 := h_93.gr hg_182
                          replace h_134 := h_134.gr hg_182
                          replace hst := hst.grow hg_182
                          refine lv (v := (.bool r_179)) rfl rfl (r_pickT (congrArg Value.bool hg_178) rfl) ?_
                          refine lv (v := (.bool r_179)) rfl rfl (r_assign rfl) ?_
                          refine lnil ?_
                          exact ⟨col_130, r_179, hm, hst, rfl, rfl⟩
                        · rw [if_neg hg_178] at hm
                          replace hg_178 := Bool.eq_false_iff.2 hg_178
                          refine lp (b := r_174) 145 rfl rfl rfl rfl (by rw [hg_178]; rfl) ?_
                          refine lp (b := r_174) 145 rfl rfl rfl rfl (by rw [hg_178]; rfl) ?_
                          refine lp (b := r_174) 145 rfl rfl rfl rfl (by rw [hg_178]; rfl) ?_
                          refine lv (v := (.bool false)) rfl rfl (r_pickF (congrArg Value.bool hg_178) rfl) ?_
                          refine lv (v := (.bool false)) rfl rfl (r_assign rfl) ?_
                          refine lnil ?_
                          exact ⟨col_130, false, hm, hst, rfl, rfl⟩
                      · rw [if_neg hg_173] at hm
                        replace hg_173 := Bool.eq_false_iff.2 hg_173
                        refine lp (b := r_169) 140 rfl rfl rfl rfl (by rw [hg_173]; rfl) ?_
                        refine lp (b := r_169) 140 rfl rfl rfl rfl (by rw [hg_173]; rfl) ?_
                        refine lp (b := r_169) 140 rfl rfl rfl rfl (by rw [hg_173]; rfl) ?_
                        refine lv (v := (.bool false)) rfl rfl (r_pickF (congrArg Value.bool hg_173) rfl) ?_
                        refine lv (v := (.bool false)) rfl rfl (r_move rfl) ?_
                        refine lp (b := false) 145 rfl rfl rfl rfl rfl ?_
                        refine lp (b := false) 145 rfl rfl rfl rfl rfl ?_
                        refine lp (b := false) 145 rfl rfl rfl rfl rfl ?_
                        refine lv (v := (.bool false)) rfl rfl (r_pickF rfl rfl) ?_
                        refine lv (v := (.bool false)) rfl rfl (r_assign rfl) ?_
                        refine lnil ?_
                        exact ⟨col_130, false, hm, hst, rfl, rfl⟩
                    · rw [if_neg hg_168] at hm
                      replace hg_168 := Bool.eq_false_iff.2 hg_168
                      refine lp (b := decide ((long_133.length : Int) = (IntKind.i64.wrap ((r_89.1.length : Int) + 7)))) 135 rfl rfl rfl rfl (by rw [hg_168]; rfl) ?_
                      refine lp (b := decide ((long_133.length : Int) = (IntKind.i64.wrap ((r_89.1.length : Int) + 7)))) 135 rfl rfl rfl rfl (by rw [hg_168]; rfl) ?_
                      refine lp (b := decide ((long_133.length : Int) = (IntKind.i64.wrap ((r_89.1.length : Int) + 7)))) 135 rfl rfl rfl rfl (by rw [hg_168]; rfl) ?_
                      refine lv (v := (.bool false)) rfl rfl (r_pickF (congrArg Value.bool hg_168) rfl) ?_
                      refine lv (v := (.bool false)) rfl rfl (r_move rfl) ?_
                      refine lp (b := false) 140 rfl rfl rfl rfl rfl ?_
                      refine lp (b := false) 140 rfl rfl rfl rfl rfl ?_
                      refine lp (b := false) 140 rfl rfl rfl rfl rfl ?_
                      refine lv (v := (.bool false)) rfl rfl (r_pickF rfl rfl) ?_
                      refine lv (v := (.bool false)) rfl rfl (r_move rfl) ?_
                      refine lp (b := false) 145 rfl rfl rfl rfl rfl ?_
                      refine lp (b := false) 145 rfl rfl rfl rfl rfl ?_
                      refine lp (b := false) 145 rfl rfl rfl rfl rfl ?_
                      refine lv (v := (.bool false)) rfl rfl (r_pickF rfl rfl) ?_
                      refine lv (v := (.bool false)) rfl rfl (r_assign rfl) ?_
                      refine lnil ?_
                      exact ⟨col_130, false, hm, hst, rfl, rfl⟩
      · refine wregion ?_
        refine lv (v := (.int .i64 r_63.2)) rfl rfl (r_move rfl) ?_
        refine lv (v := (.int .i64 r_89.2)) rfl rfl (r_move rfl) ?_
        refine lv (v := (.bool (!decide (r_63.2 = r_89.2)))) rfl rfl (r_neq r_63.2 r_89.2 rfl rfl) ?_
        refine lv (v := (.bool (!decide (r_63.2 = r_89.2)))) rfl rfl (r_move rfl) ?_
        by_cases hg_183 : (!decide (r_63.2 = r_89.2)) = true
        · rw [if_pos hg_183] at hm
          refine lp (b := !decide (r_63.2 = r_89.2)) 95 rfl rfl rfl rfl (by rw [hg_183]; rfl) ?_
          refine lp (b := !decide (r_63.2 = r_89.2)) 95 rfl rfl rfl rfl (by rw [hg_183]; rfl) ?_
          refine lp (b := !decide (r_63.2 = r_89.2)) 95 rfl rfl rfl rfl (by rw [hg_183]; rfl) ?_
          refine lv (v := (.bool true)) rfl rfl (r_pickT (congrArg Value.bool hg_183) rfl) ?_
          refine lv (v := (.bool true)) rfl rfl (r_move rfl) ?_
          refine lp (b := true) 100 rfl rfl rfl rfl rfl ?_
          refine lp (b := true) 100 rfl rfl rfl rfl rfl ?_
          refine lp (b := true) 100 rfl rfl rfl rfl rfl ?_
          refine lp (b := true) 100 rfl rfl rfl rfl rfl ?_
          refine lv (v := (.bool true)) rfl rfl (r_pickT rfl rfl) ?_
          refine lv (v := (.bool true)) rfl rfl (r_move rfl) ?_
          refine lp (b := true) 106 rfl rfl rfl rfl rfl ?_
          refine lp (b := true) 106 rfl rfl rfl rfl rfl ?_
          refine lp (b := true) 106 rfl rfl rfl rfl rfl ?_
          refine lp (b := true) 106 rfl rfl rfl rfl rfl ?_
          refine lv (v := (.bool true)) rfl rfl (r_pickT rfl rfl) ?_
          refine lnil ?_
          exact ⟨col_97, true, hm, hst, h0, h1, h_5, h_13, h_67, h_76, h_93, rfl, rfl, rfl, rfl, rfl, rfl, rfl, rfl, rfl⟩
        · rw [if_neg hg_183] at hm
          replace hg_183 := Bool.eq_false_iff.2 hg_183
          refine lg (b := !decide (r_63.2 = r_89.2)) 95 rfl rfl rfl (by rw [hg_183]; rfl) ?_
          refine lv (v := (.int .i64 r_72.2)) rfl rfl (r_move rfl) ?_
          refine lg (b := !decide (r_63.2 = r_89.2)) 95 rfl rfl rfl (by rw [hg_183]; rfl) ?_
          refine lv (v := (.int .i64 r_89.2)) rfl rfl (r_move rfl) ?_
          refine lg (b := !decide (r_63.2 = r_89.2)) 95 rfl rfl rfl (by rw [hg_183]; rfl) ?_
          refine lv (v := (.bool (!decide (r_72.2 = r_89.2)))) rfl rfl (r_neq r_72.2 r_89.2 rfl rfl) ?_
          refine lv (v := (.bool (!decide (r_72.2 = r_89.2)))) rfl rfl (r_pickF (congrArg Value.bool hg_183) rfl) ?_
          refine lv (v := (.bool (!decide (r_72.2 = r_89.2)))) rfl rfl (r_move rfl) ?_
          by_cases hg_184 : (!decide (r_72.2 = r_89.2)) = true
          · rw [if_pos hg_184] at hm
            refine lp (b := !decide (r_72.2 = r_89.2)) 100 rfl rfl rfl rfl (by rw [hg_184]; rfl) ?_
            refine lp (b := !decide (r_72.2 = r_89.2)) 100 rfl rfl rfl rfl (by rw [hg_184]; rfl) ?_
            refine lp (b := !decide (r_72.2 = r_89.2)) 100 rfl rfl rfl rfl (by rw [hg_184]; rfl) ?_
            refine lp (b := !decide (r_72.2 = r_89.2)) 100 rfl rfl rfl rfl (by rw [hg_184]; rfl) ?_
            refine lv (v := (.bool true)) rfl rfl (r_pickT (congrArg Value.bool hg_184) rfl) ?_
            refine lv (v := (.bool true)) rfl rfl (r_move rfl) ?_
            refine lp (b := true) 106 rfl rfl rfl rfl rfl ?_
            refine lp (b := true) 106 rfl rfl rfl rfl rfl ?_
            refine lp (b := true) 106 rfl rfl rfl rfl rfl ?_
            refine lp (b := true) 106 rfl rfl rfl rfl rfl ?_
            refine lv (v := (.bool true)) rfl rfl (r_pickT rfl rfl) ?_
            refine lnil ?_
            exact ⟨col_97, true, hm, hst, h0, h1, h_5, h_13, h_67, h_76, h_93, rfl, rfl, rfl, rfl, rfl, rfl, rfl, rfl, rfl⟩
          · rw [if_neg hg_184] at hm
            replace hg_184 := Bool.eq_false_iff.2 hg_184
            refine lg (b := !decide (r_72.2 = r_89.2)) 100 rfl rfl rfl (by rw [hg_184]; rfl) ?_
            refine lv (v := (.slice a_65 r_63.1.length cap_66)) rfl rfl (r_move rfl) ?_
            refine lg (b := !decide (r_72.2 = r_89.2)) 100 rfl rfl rfl (by rw [hg_184]; rfl) ?_
            refine lv (v := (.slice a_91 r_89.1.length cap_92)) rfl rfl (r_move rfl) ?_
            refine lg (b := !decide (r_72.2 = r_89.2)) 100 rfl rfl rfl (by rw [hg_184]; rfl) ?_
            obtain ⟨r_185, hr_186, hm⟩ := bind_some hm
            refine lc rfl rfl (r_call2 Try.call38 rfl rfl) (c_credencelaw10_same_credencelaw10_Small N (froz 9 (froz 6 col_97)) _ a_65 cap_66 r_63.1 (((h_67).toSl).froz 9) a_91 cap_92 r_89.1 (((h_93).froz 6 (by decide)).toSl) r_185 hr_186) ?_
            rintro _ w_187 ⟨rfl, hg_188⟩
            refine ⟨_, rfl, ?_⟩
            have hg_188 : Grow col_97 w_94 col_97 w_187 := .of_below hg_188
            replace h0 := h0.gr hg_188
            replace h1 := h1.gr hg_188
            replace h_5 := h_5.gr hg_188
            replace h_13 := h_13.gr hg_188
            replace h_67 := h_67.gr hg_188
            replace h_76 := h_76.gr hg_188
            replace h_85 := h_85.gr hg_188
            replace h_93 := h_93.gr hg_188
            replace hst := hst.grow hg_188
            refine lg (b := !decide (r_72.2 = r_89.2)) 100 rfl rfl rfl (by rw [hg_184]; rfl) ?_
            refine lv (v := (.bool (!r_185))) rfl rfl (r_not r_185 rfl) ?_
            refine lv (v := (.bool (!r_185))) rfl rfl (r_pickF (congrArg Value.bool hg_184) rfl) ?_
            refine lv (v := (.bool (!r_185))) rfl rfl (r_move rfl) ?_
            by_cases hg_189 : (!r_185) = true
            · rw [if_pos hg_189] at hm
              refine lp (b := !r_185) 106 rfl rfl rfl rfl (by rw [hg_189]; rfl) ?_
              refine lp (b := !r_185) 106 rfl rfl rfl rfl (by rw [hg_189]; rfl) ?_
              refine lp (b := !r_185) 106 rfl rfl rfl rfl (by rw [hg_189]; rfl) ?_
              refine lp (b := !r_185) 106 rfl rfl rfl rfl (by rw [hg_189]; rfl) ?_
              refine lv (v := (.bool true)) rfl rfl (r_pickT (congrArg Value.bool hg_189) rfl) ?_
              refine lnil ?_
              exact ⟨col_97, true, hm, hst, h0, h1, h_5, h_13, h_67, h_76, h_93, rfl, rfl, rfl, rfl, rfl, rfl, rfl, rfl, rfl⟩
            · rw [if_neg hg_189] at hm
              replace hg_189 := Bool.eq_false_iff.2 hg_189
              refine lg (b := !r_185) 106 rfl rfl rfl (by rw [hg_189]; rfl) ?_
              refine lv (v := (.slice a_74 r_72.1.length cap_75)) rfl rfl (r_move rfl) ?_
              refine lg (b := !r_185) 106 rfl rfl rfl (by rw [hg_189]; rfl) ?_
              refine lv (v := (.slice a_91 r_89.1.length cap_92)) rfl rfl (r_move rfl) ?_
              refine lg (b := !r_185) 106 rfl rfl rfl (by rw [hg_189]; rfl) ?_
              obtain ⟨r_190, hr_191, hm⟩ := bind_some hm
              refine lc rfl rfl (r_call2 Try.call38 rfl rfl) (c_credencelaw10_same_credencelaw10_Small N (froz 9 (froz 7 col_97)) _ a_74 cap_75 r_72.1 (((h_76).toSl).froz 9) a_91 cap_92 r_89.1 (((h_93).froz 7 (by decide)).toSl) r_190 hr_191) ?_
              rintro _ w_192 ⟨rfl, hg_193⟩
              refine ⟨_, rfl, ?_⟩
              have hg_193 : Grow col_97 w_187 col_97 w_192 := .of_below hg_193
              replace h0 := h0.gr hg_193
              replace h1 := h1.gr hg_193
              replace h_5 := h_5.gr hg_193
              replace h_13 := h_13.gr hg_193
              replace h_67 := h_67.gr hg_193
              replace h_76 := h_76.gr hg_193
              replace h_85 := h_85.gr hg_193
              replace h_93 := h_93.gr hg_193
              replace hst := hst.grow hg_193
              refine lg (b := !r_185) 106 rfl rfl rfl (by rw [hg_189]; rfl) ?_
              refine lv (v := (.bool (!r_190))) rfl rfl (r_not r_190 rfl) ?_
              refine lv (v := (.bool (!r_190))) rfl rfl (r_pickF (congrArg Value.bool hg_189) rfl) ?_
              refine lnil ?_
              exact ⟨col_97, (!r_190), hm, hst, h0, h1, h_5, h_13, h_67, h_76, h_93, rfl, rfl, rfl, rfl, rfl, rfl, rfl, rfl, rfl⟩
  · refine wregion ?_
    refine lv (v := (.int .i64 r_17.1)) rfl rfl (r_move rfl) ?_
    refine lv (v := (.int .i64 r_29.1)) rfl rfl (r_move rfl) ?_
    refine lv (v := (.bool (!decide (r_17.1 = r_29.1)))) rfl rfl (r_neq r_17.1 r_29.1 rfl rfl) ?_
    refine lv (v := (.bool (!decide (r_17.1 = r_29.1)))) rfl rfl (r_move rfl) ?_
    by_cases hg_194 : (!decide (r_17.1 = r_29.1)) = true
    · rw [if_pos hg_194] at hm
      refine lp (b := !decide (r_17.1 = r_29.1)) 58 rfl rfl rfl rfl (by rw [hg_194]; rfl) ?_
      refine lp (b := !decide (r_17.1 = r_29.1)) 58 rfl rfl rfl rfl (by rw [hg_194]; rfl) ?_
      refine lp (b := !decide (r_17.1 = r_29.1)) 58 rfl rfl rfl rfl (by rw [hg_194]; rfl) ?_
      refine lv (v := (.bool true)) rfl rfl (r_pickT (congrArg Value.bool hg_194) rfl) ?_
      refine lv (v := (.bool true)) rfl rfl (r_move rfl) ?_
      refine lp (b := true) 63 rfl rfl rfl rfl rfl ?_
      refine lp (b := true) 63 rfl rfl rfl rfl rfl ?_
      refine lp (b := true) 63 rfl rfl rfl rfl rfl ?_
      refine lv (v := (.bool true)) rfl rfl (r_pickT rfl rfl) ?_
      refine lv (v := (.bool true)) rfl rfl (r_move rfl) ?_
      refine lp (b := true) 68 rfl rfl rfl rfl rfl ?_
      refine lp (b := true) 68 rfl rfl rfl rfl rfl ?_
      refine lp (b := true) 68 rfl rfl rfl rfl rfl ?_
      refine lv (v := (.bool true)) rfl rfl (r_pickT rfl rfl) ?_
      refine lnil ?_
      exact ⟨col_52, true, hm, hst, h0, h1, h_5, h_13, rfl, rfl, rfl, rfl, rfl, rfl, rfl⟩
    · rw [if_neg hg_194] at hm
      replace hg_194 := Bool.eq_false_iff.2 hg_194
      refine lg (b := !decide (r_17.1 = r_29.1)) 58 rfl rfl rfl (by rw [hg_194]; rfl) ?_
      refine lv (v := (.int .i64 r_17.2)) rfl rfl (r_move rfl) ?_
      refine lg (b := !decide (r_17.1 = r_29.1)) 58 rfl rfl rfl (by rw [hg_194]; rfl) ?_
      refine lv (v := (.int .i64 r_29.2)) rfl rfl (r_move rfl) ?_
      refine lg (b := !decide (r_17.1 = r_29.1)) 58 rfl rfl rfl (by rw [hg_194]; rfl) ?_
      refine lv (v := (.bool (!decide (r_17.2 = r_29.2)))) rfl rfl (r_neq r_17.2 r_29.2 rfl rfl) ?_
      refine lv (v := (.bool (!decide (r_17.2 = r_29.2)))) rfl rfl (r_pickF (congrArg Value.bool hg_194) rfl) ?_
      refine lv (v := (.bool (!decide (r_17.2 = r_29.2)))) rfl rfl (r_move rfl) ?_
      by_cases hg_195 : (!decide (r_17.2 = r_29.2)) = true
      · rw [if_pos hg_195] at hm
        refine lp (b := !decide (r_17.2 = r_29.2)) 63 rfl rfl rfl rfl (by rw [hg_195]; rfl) ?_
        refine lp (b := !decide (r_17.2 = r_29.2)) 63 rfl rfl rfl rfl (by rw [hg_195]; rfl) ?_
        refine lp (b := !decide (r_17.2 = r_29.2)) 63 rfl rfl rfl rfl (by rw [hg_195]; rfl) ?_
        refine lv (v := (.bool true)) rfl rfl (r_pickT (congrArg Value.bool hg_195) rfl) ?_
        refine lv (v := (.bool true)) rfl rfl (r_move rfl) ?_
        refine lp (b := true) 68 rfl rfl rfl rfl rfl ?_
        refine lp (b := true) 68 rfl rfl rfl rfl rfl ?_
        refine lp (b := true) 68 rfl rfl rfl rfl rfl ?_
        refine lv (v := (.bool true)) rfl rfl (r_pickT rfl rfl) ?_
        refine lnil ?_
        exact ⟨col_52, true, hm, hst, h0, h1, h_5, h_13, rfl, rfl, rfl, rfl, rfl, rfl, rfl⟩
      · rw [if_neg hg_195] at hm
        replace hg_195 := Bool.eq_false_iff.2 hg_195
        refine lg (b := !decide (r_17.2 = r_29.2)) 63 rfl rfl rfl (by rw [hg_195]; rfl) ?_
        refine lv (v := (.int .i64 r_33.1)) rfl rfl (r_move rfl) ?_
        refine lg (b := !decide (r_17.2 = r_29.2)) 63 rfl rfl rfl (by rw [hg_195]; rfl) ?_
        refine lv (v := (.int .i64 r_53.1)) rfl rfl (r_move rfl) ?_
        refine lg (b := !decide (r_17.2 = r_29.2)) 63 rfl rfl rfl (by rw [hg_195]; rfl) ?_
        refine lv (v := (.bool (!decide (r_33.1 = r_53.1)))) rfl rfl (r_neq r_33.1 r_53.1 rfl rfl) ?_
        refine lv (v := (.bool (!decide (r_33.1 = r_53.1)))) rfl rfl (r_pickF (congrArg Value.bool hg_195) rfl) ?_
        refine lv (v := (.bool (!decide (r_33.1 = r_53.1)))) rfl rfl (r_move rfl) ?_
        by_cases hg_196 : (!decide (r_33.1 = r_53.1)) = true
        · rw [if_pos hg_196] at hm
          refine lp (b := !decide (r_33.1 = r_53.1)) 68 rfl rfl rfl rfl (by rw [hg_196]; rfl) ?_
          refine lp (b := !decide (r_33.1 = r_53.1)) 68 rfl rfl rfl rfl (by rw [hg_196]; rfl) ?_
          refine lp (b := !decide (r_33.1 = r_53.1)) 68 rfl rfl rfl rfl (by rw [hg_196]; rfl) ?_
          refine lv (v := (.bool true)) rfl rfl (r_pickT (congrArg Value.bool hg_196) rfl) ?_
          refine lnil ?_
          exact ⟨col_52, true, hm, hst, h0, h1, h_5, h_13, rfl, rfl, rfl, rfl, rfl, rfl, rfl⟩
        · rw [if_neg hg_196] at hm
          replace hg_196 := Bool.eq_false_iff.2 hg_196
          refine lg (b := !decide (r_33.1 = r_53.1)) 68 rfl rfl rfl (by rw [hg_196]; rfl) ?_
          refine lv (v := (.int .i64 r_33.2)) rfl rfl (r_move rfl) ?_
          refine lg (b := !decide (r_33.1 = r_53.1)) 68 rfl rfl rfl (by rw [hg_196]; rfl) ?_
          refine lv (v := (.int .i64 r_53.2)) rfl rfl (r_move rfl) ?_
          refine lg (b := !decide (r_33.1 = r_53.1)) 68 rfl rfl rfl (by rw [hg_196]; rfl) ?_
          refine lv (v := (.bool (!decide (r_33.2 = r_53.2)))) rfl rfl (r_neq r_33.2 r_53.2 rfl rfl) ?_
          refine lv (v := (.bool (!decide (r_33.2 = r_53.2)))) rfl rfl (r_pickF (congrArg Value.bool hg_196) rfl) ?_
          refine lnil ?_
          exact ⟨col_52, (!decide (r_33.2 = r_53.2)), hm, hst, h0, h1, h_5, h_13, rfl, rfl, rfl, rfl, rfl, rfl, rfl⟩




def m_credencelaw10_RadixAsked_J1 (v_3 : Bool) : Option Bool :=
  some v_3

def m_credencelaw10_RadixAsked (N : Nat) (p0_sizes : List Int) (p1_digits : List Int) (p2_at : Int) : Option Bool :=
  (m_credencelaw10_asked_int N p0_sizes p1_digits p2_at).bind fun r_4 => if r_4 = true then ((m_credencelaw10_narrow N p0_sizes).bind fun r_9 => (m_credencelaw10_narrow N p1_digits).bind fun r_17 => (m_credencelaw10_asked_int32 N r_9 r_17 p2_at).bind fun r_25 => if r_25 = true then ((m_credencelaw10_tiny N p0_sizes).bind fun r_30 => (m_credencelaw10_tiny N p1_digits).bind fun r_38 => (m_credencelaw10_asked_credencelaw10_Small N r_30 r_38 p2_at).bind fun r_46 => m_credencelaw10_RadixAsked_J1  r_46) else (m_credencelaw10_RadixAsked_J1  false)) else (m_credencelaw10_RadixAsked_J1  false)

set_option maxRecDepth 100000 in
theorem c_credencelaw10_RadixAsked (N : Nat) (col : Col) (w0 : World) (a0 : Option Addr) (cap0 : Nat) (p0_sizes : List Int) (h0 : Sl (Rep.int .i64) col w0 a0 cap0 p0_sizes) (a1 : Option Addr) (cap1 : Nat) (p1_digits : List Int) (h1 : Sl (Rep.int .i64) col w0 a1 cap1 p1_digits) (p2_at : Int) (r : Bool) (hm : m_credencelaw10_RadixAsked N p0_sizes p1_digits p2_at = some r) :
    Calls Try.prog 6 #[(.slice a0 p0_sizes.length cap0), (.slice a1 p1_digits.length cap1), (.int .i64 p2_at)] w0 (fun e w' => e = .returned (.bool r) ∧ Below w0.heap.size w0 w') := by
  refine calls_of1 6 (m := 27) (args := [(.slice a0 p0_sizes.length cap0), (.slice a1 p1_digits.length cap1), (.int .i64 p2_at)]) Try.func6 rfl rfl rfl rfl rfl ?_
  rw [m_credencelaw10_RadixAsked.eq_1] at hm
  have hst := St.start col w0
  replace h0 := h0.keep (Stay.start col w0)
  replace h1 := h1.keep (Stay.start col w0)
  refine wseq ?_
  refine wregion ?_
  refine lv (v := (.bool false)) rfl rfl (r_assign rfl) ?_
  refine lnil ?_
  refine wseq ?_
  refine Wp.cut (fun f w_1 => ∃ (col_2 : Col) (v_3 : Bool), m_credencelaw10_RadixAsked_J1  v_3 = some r ∧ St w0 (col0 col) col_2 w_1 ∧ f 6 = (.bool v_3) ∧ f 1000000 = (enc [])) ?_ ?_
  · intro f w_1 hJ
    obtain ⟨col_2, v_3, hm, hst, hs6, hs1000000⟩ := hJ
    rw [m_credencelaw10_RadixAsked_J1.eq_1] at hm
    refine .ld (d := 6) (v := (.bool v_3)) hs6 ?_
    refine .ld (d := 1000000) (v := (enc [])) hs1000000 ?_
    clear hs6 hs1000000
    refine wret ?_
    cases hm
    exact ⟨rfl, rfl, hst.below⟩
  · refine wregion ?_
    refine lv (v := (.slice a0 p0_sizes.length cap0)) rfl rfl (r_move rfl) ?_
    refine lv (v := (.slice a1 p1_digits.length cap1)) rfl rfl (r_move rfl) ?_
    refine lv (v := (.int .i64 p2_at)) rfl rfl (r_move rfl) ?_
    obtain ⟨r_4, hr_5, hm⟩ := bind_some hm
    refine lc rfl rfl (r_call3 Try.call18 rfl rfl rfl) (c_credencelaw10_asked_int N (col0 col) _ a0 cap0 p0_sizes h0 a1 cap1 p1_digits h1 p2_at r_4 hr_5) ?_
    rintro _ w_6 ⟨rfl, hg_7⟩
    refine ⟨_, rfl, ?_⟩
    have hg_7 : Grow (col0 col) w0 (col0 col) w_6 := .of_below hg_7
    replace h0 := h0.gr hg_7
    replace h1 := h1.gr hg_7
    replace hst := hst.grow hg_7
    refine lv (v := (.bool r_4)) rfl rfl (r_move rfl) ?_
    by_cases hg_8 : r_4 = true
    · rw [if_pos hg_8] at hm
      refine lg (b := r_4) 11 rfl rfl rfl (by rw [hg_8]; rfl) ?_
      refine lv (v := (.slice a0 p0_sizes.length cap0)) rfl rfl (r_move rfl) ?_
      refine lg (b := r_4) 11 rfl rfl rfl (by rw [hg_8]; rfl) ?_
      obtain ⟨r_9, hr_10, hm⟩ := bind_some hm
      refine lc rfl rfl (r_call1 Try.call11 rfl) (c_credencelaw10_narrow N 1 (col0 col) _ a0 cap0 p0_sizes h0 r_9 hr_10) ?_
      rintro _ w_14 ⟨col_16, a_11, cap_12, rfl, hg_15, h_13⟩
      refine ⟨_, rfl, ?_⟩
      replace h0 := h0.gr hg_15
      replace h1 := h1.gr hg_15
      replace hst := hst.grow hg_15
      refine lg (b := r_4) 11 rfl rfl rfl (by rw [hg_8]; rfl) ?_
      refine lv (v := (.slice a1 p1_digits.length cap1)) rfl rfl (r_move rfl) ?_
      refine lg (b := r_4) 11 rfl rfl rfl (by rw [hg_8]; rfl) ?_
      obtain ⟨r_17, hr_18, hm⟩ := bind_some hm
      refine lc rfl rfl (r_call1 Try.call11 rfl) (c_credencelaw10_narrow N 2 col_16 _ a1 cap1 p1_digits h1 r_17 hr_18) ?_
      rintro _ w_22 ⟨col_24, a_19, cap_20, rfl, hg_23, h_21⟩
      refine ⟨_, rfl, ?_⟩
      replace h0 := h0.gr hg_23
      replace h1 := h1.gr hg_23
      replace h_13 := h_13.gr hg_23
      replace hst := hst.grow hg_23
      refine lg (b := r_4) 11 rfl rfl rfl (by rw [hg_8]; rfl) ?_
      refine lv (v := (.int .i64 p2_at)) rfl rfl (r_move rfl) ?_
      refine lg (b := r_4) 11 rfl rfl rfl (by rw [hg_8]; rfl) ?_
      obtain ⟨r_25, hr_26, hm⟩ := bind_some hm
      refine lc rfl rfl (r_call3 Try.call19 rfl rfl rfl) (c_credencelaw10_asked_int32 N (froz 2 (froz 1 col_24)) _ a_11 cap_12 r_9 (((h_13).toSl).froz 2) a_19 cap_20 r_17 (((h_21).froz 1 (by decide)).toSl) p2_at r_25 hr_26) ?_
      rintro _ w_27 ⟨rfl, hg_28⟩
      refine ⟨_, rfl, ?_⟩
      have hg_28 : Grow col_24 w_22 col_24 w_27 := .of_below hg_28
      replace h0 := h0.gr hg_28
      replace h1 := h1.gr hg_28
      replace h_13 := h_13.gr hg_28
      replace h_21 := h_21.gr hg_28
      replace hst := hst.grow hg_28
      refine lv (v := (.bool r_25)) rfl rfl (r_pickT (congrArg Value.bool hg_8) rfl) ?_
      refine lv (v := (.bool r_25)) rfl rfl (r_move rfl) ?_
      by_cases hg_29 : r_25 = true
      · rw [if_pos hg_29] at hm
        refine lg (b := r_25) 19 rfl rfl rfl (by rw [hg_29]; rfl) ?_
        refine lv (v := (.slice a0 p0_sizes.length cap0)) rfl rfl (r_move rfl) ?_
        refine lg (b := r_25) 19 rfl rfl rfl (by rw [hg_29]; rfl) ?_
        obtain ⟨r_30, hr_31, hm⟩ := bind_some hm
        refine lc rfl rfl (r_call1 Try.call13 rfl) (c_credencelaw10_tiny N 3 col_24 _ a0 cap0 p0_sizes h0 r_30 hr_31) ?_
        rintro _ w_35 ⟨col_37, a_32, cap_33, rfl, hg_36, h_34⟩
        refine ⟨_, rfl, ?_⟩
        replace h0 := h0.gr hg_36
        replace h1 := h1.gr hg_36
        replace h_13 := h_13.gr hg_36
        replace h_21 := h_21.gr hg_36
        replace hst := hst.grow hg_36
        refine lg (b := r_25) 19 rfl rfl rfl (by rw [hg_29]; rfl) ?_
        refine lv (v := (.slice a1 p1_digits.length cap1)) rfl rfl (r_move rfl) ?_
        refine lg (b := r_25) 19 rfl rfl rfl (by rw [hg_29]; rfl) ?_
        obtain ⟨r_38, hr_39, hm⟩ := bind_some hm
        refine lc rfl rfl (r_call1 Try.call13 rfl) (c_credencelaw10_tiny N 4 col_37 _ a1 cap1 p1_digits h1 r_38 hr_39) ?_
        rintro _ w_43 ⟨col_45, a_40, cap_41, rfl, hg_44, h_42⟩
        refine ⟨_, rfl, ?_⟩
        replace h0 := h0.gr hg_44
        replace h1 := h1.gr hg_44
        replace h_13 := h_13.gr hg_44
        replace h_21 := h_21.gr hg_44
        replace h_34 := h_34.gr hg_44
        replace hst := hst.grow hg_44
        refine lg (b := r_25) 19 rfl rfl rfl (by rw [hg_29]; rfl) ?_
        refine lv (v := (.int .i64 p2_at)) rfl rfl (r_move rfl) ?_
        refine lg (b := r_25) 19 rfl rfl rfl (by rw [hg_29]; rfl) ?_
        obtain ⟨r_46, hr_47, hm⟩ := bind_some hm
        refine lc rfl rfl (r_call3 Try.call20 rfl rfl rfl) (c_credencelaw10_asked_credencelaw10_Small N (froz 4 (froz 3 col_45)) _ a_32 cap_33 r_30 (((h_34).toSl).froz 4) a_40 cap_41 r_38 (((h_42).froz 3 (by decide)).toSl) p2_at r_46 hr_47) ?_
        rintro _ w_48 ⟨rfl, hg_49⟩
        refine ⟨_, rfl, ?_⟩
        have hg_49 : Grow col_45 w_43 col_45 w_48 := .of_below hg_49
        replace h0 := h0.gr hg_49
        replace h1 := h1.gr hg_49
        replace h_13 := h_13.gr hg_49
        replace h_21 := h_21.gr hg_49
        replace h_34 := h_34.gr hg_49
        replace h_42 := h_42.gr hg_49
        replace hst := hst.grow hg_49
        refine lv (v := (.bool r_46)) rfl rfl (r_pickT (congrArg Value.bool hg_29) rfl) ?_
        refine lv (v := (.bool r_46)) rfl rfl (r_assign rfl) ?_
        refine lnil ?_
        exact ⟨col_45, r_46, hm, hst, rfl, rfl⟩
      · rw [if_neg hg_29] at hm
        replace hg_29 := Bool.eq_false_iff.2 hg_29
        refine lp (b := r_25) 19 rfl rfl rfl rfl (by rw [hg_29]; rfl) ?_
        refine lp (b := r_25) 19 rfl rfl rfl rfl (by rw [hg_29]; rfl) ?_
        refine lp (b := r_25) 19 rfl rfl rfl rfl (by rw [hg_29]; rfl) ?_
        refine lp (b := r_25) 19 rfl rfl rfl rfl (by rw [hg_29]; rfl) ?_
        refine lp (b := r_25) 19 rfl rfl rfl rfl (by rw [hg_29]; rfl) ?_
        refine lp (b := r_25) 19 rfl rfl rfl rfl (by rw [hg_29]; rfl) ?_
        refine lv (v := (.bool false)) rfl rfl (r_pickF (congrArg Value.bool hg_29) rfl) ?_
        refine lv (v := (.bool false)) rfl rfl (r_assign rfl) ?_
        refine lnil ?_
        exact ⟨col_24, false, hm, hst, rfl, rfl⟩
    · rw [if_neg hg_8] at hm
      replace hg_8 := Bool.eq_false_iff.2 hg_8
      refine lp (b := r_4) 11 rfl rfl rfl rfl (by rw [hg_8]; rfl) ?_
      refine lp (b := r_4) 11 rfl rfl rfl rfl (by rw [hg_8]; rfl) ?_
      refine lp (b := r_4) 11 rfl rfl rfl rfl (by rw [hg_8]; rfl) ?_
      refine lp (b := r_4) 11 rfl rfl rfl rfl (by rw [hg_8]; rfl) ?_
      refine lp (b := r_4) 11 rfl rfl rfl rfl (by rw [hg_8]; rfl) ?_
      refine lp (b := r_4) 11 rfl rfl rfl rfl (by rw [hg_8]; rfl) ?_
      refine lv (v := (.bool false)) rfl rfl (r_pickF (congrArg Value.bool hg_8) rfl) ?_
      refine lv (v := (.bool false)) rfl rfl (r_move rfl) ?_
      refine lp (b := false) 19 rfl rfl rfl rfl rfl ?_
      refine lp (b := false) 19 rfl rfl rfl rfl rfl ?_
      refine lp (b := false) 19 rfl rfl rfl rfl rfl ?_
      refine lp (b := false) 19 rfl rfl rfl rfl rfl ?_
      refine lp (b := false) 19 rfl rfl rfl rfl rfl ?_
      refine lp (b := false) 19 rfl rfl rfl rfl rfl ?_
      refine lv (v := (.bool false)) rfl rfl (r_pickF rfl rfl) ?_
      refine lv (v := (.bool false)) rfl rfl (r_assign rfl) ?_
      refine lnil ?_
      exact ⟨(col0 col), false, hm, hst, rfl, rfl⟩



theorem w64 {n : Int} (h : -9223372036854775808 ≤ n ∧ n ≤ 9223372036854775807) : IntKind.i64.wrap n = n := by rw [IntKind.wrap_i64]; omega
theorem w32 {n : Int} (h : -2147483648 ≤ n ∧ n ≤ 2147483647) : IntKind.i32.wrap n = n := by rw [IntKind.wrap_i32]; omega
theorem w16 {n : Int} (h : 0 ≤ n ∧ n ≤ 65535) : IntKind.u16.wrap n = n := by rw [IntKind.wrap_u16]; omega
def goC : List Int → Int → Int × Int
  | [], n => (n, 0)
  | x :: l, n => if 2147483647 < n * x then (0, 4) else goC l (n * x)
def anyNeg (l : List Int) : Bool := l.any fun x => decide (x < 0)
def anyZero (l : List Int) : Bool := l.any fun x => decide (x = 0)
def cntS (l : List Int) : Int × Int := if anyNeg l then (0, 3) else if anyZero l then (0, 0) else goC l 1

theorem pos_of {l : List Int} (h1 : anyNeg l = false) (h2 : anyZero l = false) : ∀ x ∈ l, 1 ≤ x := by
  intro x hx
  have a := List.any_eq_false.1 h1 x hx
  have b := List.any_eq_false.1 h2 x hx
  simp only [decide_eq_true_eq] at a b
  omega

theorem goC_snd : ∀ (l : List Int) (n : Int), 1 ≤ n → n ≤ 2147483647 → (∀ x ∈ l, 1 ≤ x) → (goC l n).2 = 0 → 1 ≤ (goC l n).1 ∧ (goC l n).1 ≤ 2147483647
  | [], n, h, h', _, _ => ⟨h, h'⟩
  | x :: l, n, h, h', hp, h0 => by
    have hx := hp x (by simp)
    simp only [goC] at h0 ⊢
    split at h0
    · simp at h0
    · rename_i hle
      rw [if_neg hle]
      have : 1 * 1 ≤ n * x := Int.mul_le_mul h hx (by omega) (by omega)
      exact goC_snd l (n * x) (by omega) (by omega) (fun y hy => hp y (by simp [hy])) h0

theorem mul_le_big {n e : Int} (h1 : 0 ≤ n) (h2 : n ≤ 2147483647) (h3 : 0 ≤ e) (h4 : e ≤ 2147483647) : 0 ≤ n * e ∧ n * e ≤ 4611686014132420609 := by
  refine ⟨Int.mul_nonneg h1 h3, ?_⟩
  have := Int.mul_le_mul h2 h4 h3 (by omega : (0 : Int) ≤ 2147483647)
  omega
theorem le_mul_pos {n e : Int} (h1 : 1 ≤ n) (h3 : 0 ≤ e) : e ≤ n * e := by
  have := Int.mul_le_mul_of_nonneg_right h1 h3
  omega

/-- The digits that are set: in front of place k. -/
def dg (xs : List Int) : Nat → Int → List Int → List Int
  | 0, _, out => out
  | k + 1, at_, out => dg xs k (IntKind.i64.wrap (Int.tdiv at_ (xs.getD k 0))) (out.set k (Int.tmod at_ (xs.getD k 0)))
theorem dg_length (xs : List Int) : ∀ k at_ out, (dg xs k at_ out).length = out.length
  | 0, _, _ => rfl
  | k + 1, at_, out => by simp [dg, dg_length xs k]
/-- Places and bases, from place k - 1 down. -/
def bp (xs : List Int) : Nat → List (Int × Int)
  | 0 => []
  | k + 1 => ((k : Int), xs.getD k 0) :: bp xs k

theorem at_get {xs : List Int} {k : Nat} (h : k < xs.length) : at? xs (k : Int) = some (xs.getD k 0) := by
  rw [at?_nat, List.getElem?_eq_getElem h]; simp [h]
theorem at_ge {xs : List Int} {k : Nat} (h : xs.length ≤ k) : at? xs (k : Int) = none := by
  rw [at?_nat, List.getElem?_eq_none h]
theorem wrap_up {k : Nat} (h : k < 4611686018427387904) : IntKind.i64.wrap ((k : Int) + 1) = ((k + 1 : Nat) : Int) := by
  rw [w64 (by omega)]; omega
theorem wrap_dn (k : Nat) (h : k < 4611686018427387904) : IntKind.i64.wrap (((k + 1 : Nat) : Int) - 1) = (k : Int) := by
  rw [w64 (by omega)]; omega
theorem chk_pos {β : Type} {c : Prop} [Decidable c] {x : Option β} (h : c) : chk c x = x := by unfold chk; rw [if_pos h]


theorem drop_getD {p : List Int} {k : Nat} (h : k < p.length) : p.drop k = p.getD k 0 :: p.drop (k + 1) := by
  rw [List.drop_eq_getElem_cons h]; simp [h]
theorem getD_mem {p : List Int} {k : Nat} (h : k < p.length) : p.getD k 0 ∈ p := by
  have : p.getD k 0 = p[k] := by simp [h]
  rw [this]; exact List.getElem_mem h

theorem ref_L2 (N : Nat) (p : List Int) (hpos : ∀ x ∈ p, 1 ≤ x) (hlen : p.length < 4611686018427387904) : ∀ (fuel k : Nat) (n : Int), k ≤ p.length → p.length - k < fuel → 1 ≤ n → n ≤ 2147483647 →
    m_credenceref10_Count_L2 N p fuel n (k : Int) = some (goC (p.drop k) n) := by
  intro fuel
  induction fuel with
  | zero => intro k n _ h; omega
  | succ fuel ih =>
    intro k n hk hf h1 h2
    rw [m_credenceref10_Count_L2.eq_2]
    by_cases hlt : k < p.length
    · rw [if_pos (decide_eq_true (by omega)), decide_eq_true (by omega : 0 < n)]
      unfold m_credenceref10_Count_J2
      rw [if_pos rfl, at_get hlt, drop_getD hlt]
      have hx := hpos _ (getD_mem hlt)
      generalize p.getD k 0 = e at hx ⊢
      simp only [Option.bind_some, goC]
      by_cases h3 : 2147483647 < e
      · have := le_mul_pos h1 (by omega : 0 ≤ e)
        rw [if_pos (decide_eq_true h3), if_pos (by omega)]
      · have hb := mul_le_big (by omega : 0 ≤ n) h2 (by omega : 0 ≤ e) (by omega)
        have := le_mul_pos h1 (by omega : 0 ≤ e)
        rw [if_neg (by simpa using h3), w64 (by omega)]
        by_cases h4 : 2147483647 < n * e
        · rw [if_pos (decide_eq_true h4), if_pos h4]
        · rw [if_neg (by simpa using h4), if_neg h4, wrap_up (by omega), ih (k + 1) (n * e) (by omega) (by omega) (by omega) (by omega)]
    · rw [if_neg (by simp; omega)]
      unfold m_credenceref10_Count_J2
      rw [if_neg (by decide), List.drop_eq_nil_of_le (by omega)]; rfl

theorem ref_L1 (N : Nat) (p : List Int) (hlen : p.length < 4611686018427387904) : ∀ (fuel k : Nat) (n : Int), k ≤ p.length → p.length - k < fuel →
    m_credenceref10_Count_L1 N p fuel n (k : Int) = if anyNeg (p.drop k) then some (0, 3) else m_credenceref10_Count_L2 N p N (if anyZero (p.drop k) then 0 else n) 0 := by
  intro fuel
  induction fuel with
  | zero => intro k n _ h; omega
  | succ fuel ih =>
    intro k n hk hf
    rw [m_credenceref10_Count_L1.eq_2]
    by_cases hlt : k < p.length
    · rw [if_pos (decide_eq_true (by omega)), at_get hlt, drop_getD hlt]
      generalize p.getD k 0 = e
      simp only [Option.bind_some, anyNeg, anyZero, List.any_cons, m_credenceref10_Count_J1, wrap_up (show k < 4611686018427387904 by omega)]
      have ih0 := ih (k + 1) 0 (by omega) (by omega)
      have ihn := ih (k + 1) n (by omega) (by omega)
      simp only [anyNeg, anyZero] at ih0 ihn
      rw [ih0, ihn]
      by_cases h3 : e < 0
      · simp [h3]
      · by_cases h4 : e = 0
        · subst h4; simp
        · simp [h3, h4]
    · rw [if_neg (by simp; omega), List.drop_eq_nil_of_le (by omega)]; rfl

theorem ref_count (N : Nat) (p : List Int) (hN : p.length < N) (hlen : p.length < 4611686018427387904) : m_credenceref10_Count N p = some (cntS p) := by
  unfold m_credenceref10_Count cntS
  have h := ref_L1 N p hlen N 0 1 (by omega) (by omega)
  simp only [Int.natCast_zero, List.drop_zero] at h
  rw [h]
  cases h1 : anyNeg p with
  | true => rfl
  | false =>
    cases h2 : anyZero p with
    | true =>
      obtain ⟨n, rfl⟩ : ∃ n, N = n + 1 := ⟨N - 1, by omega⟩
      simp only [Bool.false_eq_true, if_false, if_true]
      rw [m_credenceref10_Count_L2.eq_2]
      split <;> rfl
    | false =>
      simp only [Bool.false_eq_true, if_false]
      have := ref_L2 N p (pos_of h1 h2) hlen N 0 1 (by omega) (by omega) (by omega) (by omega)
      simpa using this

theorem ref_dg (N : Nat) (p : List Int) (hnz : ∀ x ∈ p, 1 ≤ x) (hlen : p.length < 4611686018427387904) : ∀ (fuel k : Nat) (at_ : Int) (out : List Int), k ≤ p.length → out.length = p.length → k < fuel →
    m_credenceref10_Digits_L1 N p fuel at_ out ((k : Int) - 1) = some (dg p k at_ out, 0) := by
  intro fuel
  induction fuel with
  | zero => intro k _ _ _ _ h; omega
  | succ fuel ih =>
    intro k at_ out hk ho hf
    rw [m_credenceref10_Digits_L1.eq_2]
    cases k with
    | zero => rw [if_neg (by simp)]; rfl
    | succ k =>
      have hlt : k < p.length := by omega
      have hkk : ((k + 1 : Nat) : Int) - 1 = (k : Int) := by omega
      have hx := hnz _ (getD_mem hlt)
      rw [hkk, if_pos (decide_eq_true (by omega)), at_get hlt]
      simp only [Option.bind_some]
      rw [chk_pos (by omega), at_get (by omega)]
      simp only [Option.bind_some, Int.toNat_natCast]
      rw [chk_pos (by omega), w64 (n := (k : Int) - 1) (by omega), ih k _ _ (by omega) (by simpa using ho) (by omega)]
      rfl

/-- What the document says of a place's digits. -/
def dgS (p : List Int) (at_ : Int) : List Int × Int :=
  if (cntS p).2 = 0 then (if at_ < 0 ∨ (cntS p).1 ≤ at_ then ([], 3) else (dg p p.length at_ (List.replicate p.length 0), 0)) else ([], (cntS p).2)

theorem cnt_pos {p : List Int} (h0 : (cntS p).2 = 0) (h1 : 0 < (cntS p).1) : (∀ x ∈ p, 1 ≤ x) ∧ (cntS p).1 ≤ 2147483647 := by
  unfold cntS at h0 h1 ⊢
  cases a : anyNeg p with
  | true => rw [a] at h0; simp at h0
  | false =>
    cases b : anyZero p with
    | true => rw [a, b] at h1; simp at h1
    | false =>
      rw [a, b] at h0
      simp only [Bool.false_eq_true, if_false] at h0 ⊢
      exact ⟨pos_of a b, (goC_snd p 1 (by omega) (by omega) (pos_of a b) h0).2⟩

theorem dgS_len (p : List Int) (at_ : Int) : (dgS p at_).1.length ≤ p.length := by
  unfold dgS
  split
  · split
    · simp
    · simp [dg_length]
  · simp

theorem ref_digits (N : Nat) (p : List Int) (at_ : Int) (hN : p.length < N) (hlen : p.length ≤ 17592186044416) : m_credenceref10_Digits N p at_ = some (dgS p at_) := by
  unfold m_credenceref10_Digits dgS
  rw [ref_count N p hN (by omega)]
  simp only [Option.bind_some, m_credenceref10_Digits_J1]
  by_cases h0 : (cntS p).2 = 0
  · rw [if_neg (by simp [h0]), if_pos h0]
    by_cases h1 : at_ < 0
    · simp [h1]
    · by_cases h2 : (cntS p).1 ≤ at_
      · simp [h1, h2]
      · have hp := cnt_pos h0 (by omega)
        rw [if_neg (by simpa using h1), if_neg (by simpa using h2), if_neg (by omega), chk_pos (by simp only [maxLen]; omega), w64 (by omega), ref_dg N p hp.1 (by omega) N p.length at_ _ (Nat.le_refl _) (by simp) hN]
  · rw [if_pos (by simpa using h0), if_neg h0]


/-- The numbers that the type has. -/
def fit_int (x : Int) : Prop := -9223372036854775808 ≤ x ∧ x ≤ 9223372036854775807

theorem cnt_L2_int : ∀ (l : List Int) (n : Int), (∀ x ∈ l, fit_int x) → (∀ x ∈ l, 1 ≤ x) → 1 ≤ n → n ≤ 2147483647 → m_radix_Count_int_L2 l n = some (goC l n)
  | [], n, _, _, _, _ => rfl
  | x :: l, n, hf, hp, h1, h2 => by
    have hx := hp x (by simp)
    rw [m_radix_Count_int_L2.eq_2, chk_pos (by omega), goC]
    have hq : Int.tdiv 2147483647 n = 2147483647 / n := Int.tdiv_eq_ediv_of_nonneg (by omega)
    have hq0 : 0 ≤ (2147483647 : Int) / n := Int.ediv_nonneg (by omega) (by omega)
    have hq1 : (2147483647 : Int) / n ≤ 2147483647 := Int.ediv_le_self _ (by omega)
    rw [hq, w64 (by omega)]
    by_cases h : 2147483647 < n * x
    · rw [if_pos h, if_pos (decide_eq_true (by rw [Int.ediv_lt_iff_lt_mul (by omega), Int.mul_comm]; exact h))]
    · have h3 : 1 * 1 ≤ n * x := Int.mul_le_mul h1 hx (by omega) (by omega)
      rw [if_neg h, if_neg (by rw [decide_eq_true_eq, Int.ediv_lt_iff_lt_mul (by omega), Int.mul_comm]; exact h), w64 (by omega)]
      exact cnt_L2_int l (n * x) (fun y hy => hf y (by simp [hy])) (fun y hy => hp y (by simp [hy])) (by omega) (by omega)

theorem cnt_L1_int (p : List Int) : ∀ (l : List Int) (b : Bool), m_radix_Count_int_L1 p l b = if anyNeg l then some (0, 3) else if b || anyZero l then some (0, 0) else m_radix_Count_int_L2 p 1
  | [], b => by cases b <;> rfl
  | x :: l, b => by
    rw [m_radix_Count_int_L1.eq_2]
    simp only [m_radix_Count_int_J1, cnt_L1_int p l, anyNeg, anyZero, List.any_cons]
    by_cases h : x < 0
    · simp [h]
    · cases b
      · simp [h]
      · simp [h]

theorem cnt_int (p : List Int) (hf : ∀ x ∈ p, fit_int x) : m_radix_Count_int p = some (cntS p) := by
  unfold m_radix_Count_int cntS
  rw [cnt_L1_int]
  cases h1 : anyNeg p with
  | true => rfl
  | false =>
    cases h2 : anyZero p with
    | true => rfl
    | false =>
      simp only [Bool.false_eq_true, if_false, Bool.or_false]
      exact cnt_L2_int p 1 hf (pos_of h1 h2) (by omega) (by omega)

theorem back_int (N : Nat) (p : List Int) (hlen : p.length < 4611686018427387904) : ∀ (fuel k : Nat), k ≤ p.length → k < fuel → m_slices_Backward_int_int_1_L1 N p fuel ((k : Int) - 1) = some (bp p k) := by
  intro fuel
  induction fuel with
  | zero => intro k _ h; omega
  | succ fuel ih =>
    intro k hk hf
    rw [m_slices_Backward_int_int_1_L1.eq_2]
    cases k with
    | zero => rw [if_neg (by simp)]; rfl
    | succ k =>
      have hkk : ((k + 1 : Nat) : Int) - 1 = (k : Int) := by omega
      rw [hkk, if_pos (decide_eq_true (by omega)), at_get (by omega)]
      simp only [Option.bind_some]
      rw [w64 (n := (k : Int) - 1) (by omega), ih k (by omega) (by omega)]
      rfl

theorem dig_L1_int (p : List Int) (hf : ∀ x ∈ p, fit_int x) (hnz : ∀ x ∈ p, 1 ≤ x) : ∀ (k : Nat) (at_ : Int) (out : List Int), 0 ≤ at_ → at_ < 9223372036854775807 → k ≤ p.length → out.length = p.length → m_radix_digits_int_L1 (bp p k) at_ out = some (dg p k at_ out)
  | 0, _, _, _, _, _, _ => rfl
  | k + 1, at_, out, h0, h9, hk, ho => by
    have hlt : k < p.length := by omega
    have hx := hnz _ (getD_mem hlt)
    have hfx := hf _ (getD_mem hlt)
    rw [bp, m_radix_digits_int_L1.eq_2]
    simp only [dg]
    generalize p.getD k 0 = e at hx hfx ⊢
    have hm : IntKind.i64.wrap (Int.tmod at_ e) = Int.tmod at_ e := by
      have h1 : 0 ≤ Int.tmod at_ e := Int.tmod_nonneg _ h0
      have h2 : Int.tmod at_ e < e := Int.tmod_lt_of_pos _ (by omega)
      exact w64 (by unfold fit_int at hfx; omega)
    have hq : Int.tdiv at_ e = at_ / e := Int.tdiv_eq_ediv_of_nonneg h0
    have hq0 : 0 ≤ at_ / e := Int.ediv_nonneg h0 (by omega)
    have hq1 : at_ / e ≤ at_ := Int.ediv_le_self _ h0
    rw [chk_pos (by omega), at_get (by omega)]
    simp only [Option.bind_some, Int.toNat_natCast]
    rw [chk_pos (by omega)]
    rw [dig_L1_int p hf hnz k _ _ (by rw [w64] <;> omega) (by rw [w64] <;> omega) (by omega) (by simpa using ho)]

theorem dig_int (N : Nat) (p : List Int) (at_ : Int) (hf : ∀ x ∈ p, fit_int x) (hN : p.length < N) (hlen : p.length ≤ 17592186044416) : m_radix_Digits_int N p at_ = some (dgS p at_) := by
  unfold m_radix_Digits_int dgS
  rw [cnt_int p hf]
  simp only [Option.bind_some, m_radix_Digits_int_J1]
  by_cases h0 : (cntS p).2 = 0
  · rw [if_neg (by simp [h0]), if_pos h0]
    by_cases h1 : at_ < 0
    · simp [h1]
    · by_cases h2 : (cntS p).1 ≤ at_
      · simp [h1, h2]
      · have hp := cnt_pos h0 (by omega)
        rw [if_neg (by simpa using h1), if_neg (by simpa using h2), if_neg (by omega)]
        unfold m_radix_digits_int
        cases hl : p with
        | nil => rfl
        | cons x l =>
          rw [← hl, if_neg (by rw [hl]; simp; omega), chk_pos (by simp only [maxLen]; omega)]
          unfold m_slices_Backward_int_int m_slices_Backward_int_int_1
          rw [w64 (by omega), back_int N p (by omega) N p.length (Nat.le_refl _) hN]
          simp only [Option.bind_some]
          rw [dig_L1_int p hf hp.1 p.length at_ _ (by omega) (by omega) (Nat.le_refl _) (by simp)]
          rfl
  · rw [if_pos (by simpa using h0), if_neg h0]

theorem dg_fit_int (p : List Int) (hf : ∀ x ∈ p, fit_int x) (hnz : ∀ x ∈ p, 1 ≤ x) : ∀ (k : Nat) (at_ : Int) (out : List Int), 0 ≤ at_ → at_ < 9223372036854775807 → k ≤ p.length → (∀ x ∈ out, fit_int x) → ∀ x ∈ dg p k at_ out, fit_int x
  | 0, _, _, _, _, _, ho => ho
  | k + 1, at_, out, h0, h9, hk, ho => by
    have hlt : k < p.length := by omega
    have hx := hnz _ (getD_mem hlt)
    have hfx := hf _ (getD_mem hlt)
    simp only [dg]
    generalize p.getD k 0 = e at hx hfx ⊢
    have h1 : 0 ≤ Int.tmod at_ e := Int.tmod_nonneg _ h0
    have h2 : Int.tmod at_ e < e := Int.tmod_lt_of_pos _ (by omega)
    have hq : Int.tdiv at_ e = at_ / e := Int.tdiv_eq_ediv_of_nonneg h0
    have hq0 : 0 ≤ at_ / e := Int.ediv_nonneg h0 (by omega)
    have hq1 : at_ / e ≤ at_ := Int.ediv_le_self _ h0
    have hm : fit_int (Int.tmod at_ e) := by
      unfold fit_int at hfx ⊢; omega
    refine dg_fit_int p hf hnz k _ _ (by rw [w64] <;> omega) (by rw [w64] <;> omega) (by omega) fun x hx => ?_
    rcases List.mem_or_eq_of_mem_set hx with h | h
    · exact ho x h
    · rw [h]; exact hm
theorem dgS_fit_int (p : List Int) (at_ : Int) (hf : ∀ x ∈ p, fit_int x) : ∀ x ∈ (dgS p at_).1, fit_int x := by
  unfold dgS
  split
  · rename_i h0
    split
    · simp
    · rename_i h1
      have hp := cnt_pos h0 (by omega)
      refine dg_fit_int p hf hp.1 p.length at_ _ (by omega) (by omega) (Nat.le_refl _) fun x hx => ?_
      rw [List.eq_of_mem_replicate hx]
      exact ⟨by decide, by decide⟩
  · simp

/-! at -/
theorem at_same_int (N : Nat) (p d : List Int) (hl : d.length = p.length) (hfp : ∀ x ∈ p, fit_int x) (hfd : ∀ x ∈ d, fit_int x) (hlen : p.length < 4611686018427387904) : ∀ (fuel k : Nat) (at_ : Int), k ≤ p.length → p.length - k < fuel →
    ∃ r, m_radix_At_int_L1 p (d.drop k) k at_ = some r ∧ m_credenceref10_At_L1 N p d fuel at_ (k : Int) = some r := by
  intro fuel
  induction fuel with
  | zero => intro k _ _ h; omega
  | succ fuel ih =>
    intro k at_ hk hfu
    rw [m_credenceref10_At_L1.eq_2]
    by_cases hlt : k < p.length
    · have hltd : k < d.length := by omega
      have hxp := hfp _ (getD_mem hlt)
      have hxd := hfd _ (getD_mem hltd)
      rw [if_pos (decide_eq_true (by omega)), at_get hltd, drop_getD hltd, m_radix_At_int_L1.eq_2]
      simp only [Option.bind_some, at_get hlt, m_radix_At_int_J1, m_credenceref10_At_J1, at_get hltd]
      have ih' := fun at_ => ih (k + 1) at_ (by omega) (by omega)
      generalize p.getD k 0 = s at hxp ⊢
      generalize d.getD k 0 = x at hxd ⊢
      by_cases h1 : x < 0
      · exact ⟨(0, 3), by simp [h1], by simp [h1]⟩
      · by_cases h2 : s ≤ x
        · exact ⟨(0, 3), by simp [h1, h2], by simp [h1, h2]⟩
        · simp only [h1, h2, decide_false, Bool.false_eq_true, if_false, wrap_up (show k < 4611686018427387904 by omega)]
          exact ih' _
    · rw [if_neg (by simp; omega), List.drop_eq_nil_of_le (by omega)]
      exact ⟨(at_, 0), rfl, rfl⟩

theorem at_int (N : Nat) (p d : List Int) (hfp : ∀ x ∈ p, fit_int x) (hfd : ∀ x ∈ d, fit_int x) (hN : p.length < N) (hlen : p.length < 4611686018427387904) :
    ∃ r, m_radix_At_int p d = some r ∧ m_credenceref10_At N p d = some r := by
  unfold m_radix_At_int m_credenceref10_At
  rw [cnt_int p hfp, ref_count N p hN hlen]
  simp only [Option.bind_some]
  by_cases h0 : (cntS p).2 = 0
  · have e0 : (!decide ((cntS p).2 = 0)) = false := by simp [h0]
    simp only [e0, Bool.false_eq_true, if_false]
    by_cases h1 : d.length = p.length
    · have e : (!decide ((d.length : Int) = (p.length : Int))) = false := by simp [h1]
      simp only [e, Bool.false_eq_true, if_false]
      have := at_same_int N p d h1 hfp hfd hlen N 0 0 (by omega) (by omega)
      simpa using this
    · have h2 : ¬ ((d.length : Int) = (p.length : Int)) := by omega
      have e : (!decide ((d.length : Int) = (p.length : Int))) = true := by simp [h2]
      simp only [e, if_true]
      exact ⟨_, rfl, rfl⟩
  · have e0 : (!decide ((cntS p).2 = 0)) = true := by simp [h0]
    simp only [e0, if_true]
    exact ⟨_, rfl, rfl⟩

/-! the statements' own helpers -/
theorem roomy_int (N : Nat) (l : List Int) (hN : 6 ≤ N) (hlen : l.length ≤ 17592186043904) : m_credencelaw10_roomy_int N l = some (l.length, l ++ [77, 77, 77, 77, 77]) := by
  obtain ⟨n, rfl⟩ : ∃ n, N = n + 6 := ⟨N - 6, by omega⟩
  unfold m_credencelaw10_roomy_int
  rw [chk_pos (by simp only [List.length_nil, maxLen]; omega)]
  have s : ∀ (f : Nat) (m : List Int) (i j : Int), i < 5 → IntKind.i64.wrap (i + 1) = j → m.length ≤ 17592186043910 → m_credencelaw10_roomy_int_L1 (n + 6) l (f + 1) m i = m_credencelaw10_roomy_int_L1 (n + 6) l f (m ++ [77]) j := by
    intro f m i j h1 h2 h3
    rw [m_credencelaw10_roomy_int_L1.eq_2, if_pos (decide_eq_true h1), chk_pos (by simp only [List.length_cons, List.length_nil, maxLen]; omega), h2]
  rw [List.nil_append, s (n + 5) _ 0 1 (by omega) (by decide) (by omega), s (n + 4) _ 1 2 (by omega) (by decide) (by simp; omega), s (n + 3) _ 2 3 (by omega) (by decide) (by simp; omega), s (n + 2) _ 3 4 (by omega) (by decide) (by simp; omega),
    s (n + 1) _ 4 5 (by omega) (by decide) (by simp; omega), m_credencelaw10_roomy_int_L1.eq_2, if_neg (by decide), chk_pos (by simp; omega)]
  simp

theorem plain_int_L1 (N : Nat) (l : List Int) (hf : ∀ x ∈ l, fit_int x) (hlen : l.length ≤ 17592186044416) : ∀ (fuel k : Nat), k ≤ l.length → l.length - k < fuel → m_credencelaw10_plain_int_L1 N l fuel (l.take k) (k : Int) = some l := by
  intro fuel
  induction fuel with
  | zero => intro k _ h; omega
  | succ fuel ih =>
    intro k hk hfu
    rw [m_credencelaw10_plain_int_L1.eq_2]
    by_cases hlt : k < l.length
    · have hx := hf _ (getD_mem hlt)
      rw [if_pos (decide_eq_true (by omega)), at_get hlt]
      simp only [Option.bind_some]
      rw [chk_pos (by simp only [List.length_take, List.length_cons, List.length_nil, maxLen]; omega), wrap_up (by omega)]
      have ht : l.take k ++ [l.getD k 0] = l.take (k + 1) := by
        rw [List.take_add_one]; simp [hlt]
      rw [ht]; exact ih (k + 1) (by omega) (by omega)
    · rw [if_neg (by simp; omega), List.take_of_length_le (by omega)]
theorem plain_int (N : Nat) (l : List Int) (hf : ∀ x ∈ l, fit_int x) (hN : l.length < N) (hlen : l.length ≤ 17592186044416) : m_credencelaw10_plain_int N l = some l := by
  have := plain_int_L1 N l hf hlen N 0 (by omega) (by omega)
  unfold m_credencelaw10_plain_int
  simpa using this

theorem same_int_L1 (N : Nat) (l : List Int) (hf : ∀ x ∈ l, fit_int x) (hlen : l.length < 4611686018427387904) : ∀ (fuel k : Nat), k ≤ l.length → l.length - k < fuel → m_credencelaw10_same_int_L1 N l l fuel (k : Int) = some true := by
  intro fuel
  induction fuel with
  | zero => intro k _ h; omega
  | succ fuel ih =>
    intro k hk hfu
    rw [m_credencelaw10_same_int_L1.eq_2]
    by_cases hlt : k < l.length
    · have hx := hf _ (getD_mem hlt)
      rw [if_pos (decide_eq_true (by omega)), at_get hlt]
      simp only [Option.bind_some]
      rw [if_neg (by simp), wrap_up (by omega)]
      exact ih (k + 1) (by omega) (by omega)
    · rw [if_neg (by simp; omega)]
theorem same_int (N : Nat) (l : List Int) (hf : ∀ x ∈ l, fit_int x) (hN : l.length < N) (hlen : l.length < 4611686018427387904) : m_credencelaw10_same_int N l l = some true := by
  unfold m_credencelaw10_same_int
  rw [if_neg (by simp)]
  exact same_int_L1 N l hf hlen N 0 (by omega) (by omega)

theorem kept_int_L1 (N n0 : Nat) (l : List Int) (hn : n0 = l.length) (hlen : l.length ≤ 17592186044416) : ∀ (fuel k : Nat), k ≤ l.length + 5 → l.length + 5 - k < fuel → m_credencelaw10_kept_int_L1 N n0 (l ++ [77, 77, 77, 77, 77]) l fuel (k : Int) = some true := by
  intro fuel
  induction fuel with
  | zero => intro k _ h; omega
  | succ fuel ih =>
    intro k hk hfu
    rw [m_credencelaw10_kept_int_L1.eq_2]
    have hw : IntKind.i64.wrap ((l.length : Int) + 5) = ((l.length + 5 : Nat) : Int) := by rw [w64 (by omega)]; omega
    have hL : (l ++ [77, 77, 77, 77, 77]).take (Int.toNat (IntKind.i64.wrap ((l.length : Int) + 5))) = l ++ [77, 77, 77, 77, 77] := by
      rw [hw, Int.toNat_natCast, List.take_of_length_le (by simp)]
    rw [hL]
    have hlen5 : (l ++ [77, 77, 77, 77, 77] : List Int).length = l.length + 5 := by simp
    by_cases h5 : k < l.length + 5
    · rw [if_pos (decide_eq_true (by rw [hlen5]; omega))]
      rw [at_get (by rw [hlen5]; exact h5)]
      simp only [m_credencelaw10_kept_int_J2, m_credencelaw10_kept_int_J1, Option.bind_some, wrap_up (show k < 4611686018427387904 by omega), ih (k + 1) (by omega) (by omega)]
      by_cases hlt : k < l.length
      · have hg : (l ++ [77, 77, 77, 77, 77]).getD k 0 = l.getD k 0 := by
          rw [List.getD_eq_getElem?_getD, List.getD_eq_getElem?_getD, List.getElem?_append_left hlt]
        have h6 : ¬ ((l.length : Int) ≤ (k : Int)) := by omega
        rw [if_pos (decide_eq_true (by omega)), at_get hlt, hg]
        simp [h6]
      · have hg : (l ++ [77, 77, 77, 77, 77]).getD k 0 = 77 := by
          rw [List.getD_eq_getElem?_getD, List.getElem?_append_right (by omega)]
          have : k - l.length < 5 := by omega
          generalize k - l.length = j at this
          match j, this with
          | 0, _ => rfl
          | 1, _ => rfl
          | 2, _ => rfl
          | 3, _ => rfl
          | 4, _ => rfl
        have h6 : ((l.length : Int) ≤ (k : Int)) := by omega
        rw [if_neg (by simp; omega), hg]
        simp [h6]
    · rw [if_neg (by rw [hlen5]; simp; omega)]
      simp [hn]
theorem kept_int (N : Nat) (l : List Int) (hN : l.length + 5 < N) (hlen : l.length ≤ 17592186044416) : m_credencelaw10_kept_int N l.length (l ++ [77, 77, 77, 77, 77]) l = some true := by
  unfold m_credencelaw10_kept_int
  rw [chk_pos (by rw [w64 (by omega)]; simp; omega)]
  exact kept_int_L1 N l.length l rfl hlen N 0 (by omega) (by omega)


theorem asked_L2_int (N : Nat) (p d : List Int) (r1 r9 : Nat × List Int) (r72 r89 : List Int × Int) (h1 : m_credencelaw10_same_int N r72.1 r89.1 = some true) (h2 : m_credencelaw10_kept_int N r1.1 r1.2 p = some true) (h3 : m_credencelaw10_kept_int N r9.1 r9.2 d = some true)
    (a : List Int) (ha : a.length = r89.1.length) (hlen : a.length ≤ 17592186043904) (hN : 8 ≤ N) : m_credencelaw10_asked_int_L2 N p d r1 r9 r72 r89 N a 0 = some true := by
  obtain ⟨n, hn⟩ : ∃ n, N = n + 8 := ⟨N - 8, by omega⟩
  have s : ∀ (f : Nat) (m : List Int) (i j : Int), i < 7 → IntKind.i64.wrap (i + 1) = j → m.length ≤ 17592186043911 → m_credencelaw10_asked_int_L2 N p d r1 r9 r72 r89 (f + 1) m i = m_credencelaw10_asked_int_L2 N p d r1 r9 r72 r89 f (m ++ [98]) j := by
    intro f m i j h1 h2 h3
    rw [m_credencelaw10_asked_int_L2.eq_2, if_pos (decide_eq_true h1), chk_pos (by simp only [List.length_cons, List.length_nil, maxLen]; omega), h2]
  have e : ∀ f, f = n + 8 → m_credencelaw10_asked_int_L2 N p d r1 r9 r72 r89 f a 0 = some true := by
    rintro f rfl
    rw [s (n + 7) _ 0 1 (by omega) (by decide) (by omega), s (n + 6) _ 1 2 (by omega) (by decide) (by simp; omega), s (n + 5) _ 2 3 (by omega) (by decide) (by simp; omega), s (n + 4) _ 3 4 (by omega) (by decide) (by simp; omega),
      s (n + 3) _ 4 5 (by omega) (by decide) (by simp; omega), s (n + 2) _ 5 6 (by omega) (by decide) (by simp; omega), s (n + 1) _ 6 7 (by omega) (by decide) (by simp; omega), m_credencelaw10_asked_int_L2.eq_2, if_neg (by decide)]
    have hl : ((a ++ [98] ++ [98] ++ [98] ++ [98] ++ [98] ++ [98] ++ [98] : List Int).length : Int) = IntKind.i64.wrap ((r89.1.length : Int) + 7) := by
      rw [w64 (by omega)]; simp; omega
    rw [if_pos (decide_eq_true hl), h1]
    simp only [Option.bind_some, if_true, h2, h3, m_credencelaw10_asked_int_J3]
  exact e N hn

theorem asked_L1_int (N : Nat) (p d : List Int) (r1 r9 : Nat × List Int) (r72 r89 : List Int × Int) : ∀ (fuel k : Nat) (a : List Int), a.length < 4611686018427387904 → k ≤ a.length → a.length - k < fuel →
    ∃ a', a'.length = a.length ∧ m_credencelaw10_asked_int_L1 N p d r1 r9 r72 r89 fuel a (k : Int) = m_credencelaw10_asked_int_L2 N p d r1 r9 r72 r89 N a' 0 := by
  intro fuel
  induction fuel with
  | zero => intro k a _ _ h; omega
  | succ fuel ih =>
    intro k a hl hk hf
    rw [m_credencelaw10_asked_int_L1.eq_2]
    by_cases hlt : k < a.length
    · rw [if_pos (decide_eq_true (by omega)), at_get hlt]
      simp only [Option.bind_some, wrap_up (show k < 4611686018427387904 by omega)]
      obtain ⟨a', h1, h2⟩ := ih (k + 1) (a.set (Int.toNat (k : Int)) 99) (by simpa using hl) (by simp; omega) (by simp; omega)
      exact ⟨a', by simpa using h1, h2⟩
    · rw [if_neg (by simp; omega)]
      exact ⟨a, rfl, rfl⟩

theorem asked_int (N : Nat) (p d : List Int) (at_ : Int) (hfp : ∀ x ∈ p, fit_int x) (hfd : ∀ x ∈ d, fit_int x) (hN : p.length + d.length + 20 ≤ N) (hp : p.length ≤ 17592186043904) (hd : d.length ≤ 17592186043904) :
    m_credencelaw10_asked_int N p d at_ = some true := by
  unfold m_credencelaw10_asked_int
  obtain ⟨r, hr1, hr2⟩ := at_int N p d hfp hfd (by omega) (by omega)
  have hk1 := kept_int N p (by omega) (by omega)
  have hk2 := kept_int N d (by omega) (by omega)
  have hdl := dgS_len p at_
  have hs := same_int N (dgS p at_).1 (dgS_fit_int p at_ hfp) (by omega) (by omega)
  rw [roomy_int N p (by omega) hp, roomy_int N d (by omega) hd]
  simp only [Option.bind_some, List.take_left]
  rw [cnt_int p hfp, plain_int N p hfp (by omega) (by omega), plain_int N d hfd (by omega) (by omega)]
  simp only [Option.bind_some]
  rw [ref_count N p (by omega) (by omega)]
  simp only [Option.bind_some]
  rw [hr1, hr2]
  simp only [Option.bind_some, decide_true, Bool.not_true, Bool.false_eq_true, if_false, m_credencelaw10_asked_int_J1, List.take_left]
  rw [dig_int N p at_ hfp (by omega) (by omega), plain_int N p hfp (by omega) (by omega)]
  simp only [Option.bind_some]
  rw [ref_digits N p at_ (by omega) (by omega)]
  simp only [Option.bind_some, decide_true, Bool.not_true, Bool.false_eq_true, if_false, hs, m_credencelaw10_asked_int_J2]
  obtain ⟨a', h1, h2⟩ := asked_L1_int N p d (p.length, p ++ [77, 77, 77, 77, 77]) (d.length, d ++ [77, 77, 77, 77, 77]) (dgS p at_) (dgS p at_) N 0 (dgS p at_).1 (by omega) (by omega) (by omega)
  rw [show ((0 : Nat) : Int) = 0 from rfl] at h2
  rw [h2]
  exact asked_L2_int N p d _ _ _ _ hs hk1 hk2 a' h1 (by omega) (by omega)


/-- The numbers that the type has. -/
def fit_int32 (x : Int) : Prop := IntKind.i32.wrap x = x ∧ IntKind.i64.wrap x = x

theorem cnt_L2_int32 : ∀ (l : List Int) (n : Int), (∀ x ∈ l, fit_int32 x) → (∀ x ∈ l, 1 ≤ x) → 1 ≤ n → n ≤ 2147483647 → m_radix_Count_int32_L2 l n = some (goC l n)
  | [], n, _, _, _, _ => rfl
  | x :: l, n, hf, hp, h1, h2 => by
    have hx := hp x (by simp)
    rw [m_radix_Count_int32_L2.eq_2, chk_pos (by omega), goC]
    rw [(hf x (by simp)).2]
    have hq : Int.tdiv 2147483647 n = 2147483647 / n := Int.tdiv_eq_ediv_of_nonneg (by omega)
    have hq0 : 0 ≤ (2147483647 : Int) / n := Int.ediv_nonneg (by omega) (by omega)
    have hq1 : (2147483647 : Int) / n ≤ 2147483647 := Int.ediv_le_self _ (by omega)
    rw [hq, w64 (by omega)]
    by_cases h : 2147483647 < n * x
    · rw [if_pos h, if_pos (decide_eq_true (by rw [Int.ediv_lt_iff_lt_mul (by omega), Int.mul_comm]; exact h))]
    · have h3 : 1 * 1 ≤ n * x := Int.mul_le_mul h1 hx (by omega) (by omega)
      rw [if_neg h, if_neg (by rw [decide_eq_true_eq, Int.ediv_lt_iff_lt_mul (by omega), Int.mul_comm]; exact h), w64 (by omega)]
      exact cnt_L2_int32 l (n * x) (fun y hy => hf y (by simp [hy])) (fun y hy => hp y (by simp [hy])) (by omega) (by omega)

theorem cnt_L1_int32 (p : List Int) : ∀ (l : List Int) (b : Bool), m_radix_Count_int32_L1 p l b = if anyNeg l then some (0, 3) else if b || anyZero l then some (0, 0) else m_radix_Count_int32_L2 p 1
  | [], b => by cases b <;> rfl
  | x :: l, b => by
    rw [m_radix_Count_int32_L1.eq_2]
    simp only [m_radix_Count_int32_J1, cnt_L1_int32 p l, anyNeg, anyZero, List.any_cons]
    by_cases h : x < 0
    · simp [h]
    · cases b
      · simp [h]
      · simp [h]

theorem cnt_int32 (p : List Int) (hf : ∀ x ∈ p, fit_int32 x) : m_radix_Count_int32 p = some (cntS p) := by
  unfold m_radix_Count_int32 cntS
  rw [cnt_L1_int32]
  cases h1 : anyNeg p with
  | true => rfl
  | false =>
    cases h2 : anyZero p with
    | true => rfl
    | false =>
      simp only [Bool.false_eq_true, if_false, Bool.or_false]
      exact cnt_L2_int32 p 1 hf (pos_of h1 h2) (by omega) (by omega)

theorem back_int32 (N : Nat) (p : List Int) (hlen : p.length < 4611686018427387904) : ∀ (fuel k : Nat), k ≤ p.length → k < fuel → m_slices_Backward_int32_int32_1_L1 N p fuel ((k : Int) - 1) = some (bp p k) := by
  intro fuel
  induction fuel with
  | zero => intro k _ h; omega
  | succ fuel ih =>
    intro k hk hf
    rw [m_slices_Backward_int32_int32_1_L1.eq_2]
    cases k with
    | zero => rw [if_neg (by simp)]; rfl
    | succ k =>
      have hkk : ((k + 1 : Nat) : Int) - 1 = (k : Int) := by omega
      rw [hkk, if_pos (decide_eq_true (by omega)), at_get (by omega)]
      simp only [Option.bind_some]
      rw [w64 (n := (k : Int) - 1) (by omega), ih k (by omega) (by omega)]
      rfl

theorem dig_L1_int32 (p : List Int) (hf : ∀ x ∈ p, fit_int32 x) (hnz : ∀ x ∈ p, 1 ≤ x) : ∀ (k : Nat) (at_ : Int) (out : List Int), 0 ≤ at_ → at_ < 9223372036854775807 → k ≤ p.length → out.length = p.length → m_radix_digits_int32_L1 (bp p k) at_ out = some (dg p k at_ out)
  | 0, _, _, _, _, _, _ => rfl
  | k + 1, at_, out, h0, h9, hk, ho => by
    have hlt : k < p.length := by omega
    have hx := hnz _ (getD_mem hlt)
    have hfx := hf _ (getD_mem hlt)
    rw [bp, m_radix_digits_int32_L1.eq_2]
    simp only [dg]
    generalize p.getD k 0 = e at hx hfx ⊢
    rw [hfx.2]
    have hm : IntKind.i32.wrap (Int.tmod at_ e) = Int.tmod at_ e := by
      have h1 : 0 ≤ Int.tmod at_ e := Int.tmod_nonneg _ h0
      have h2 : Int.tmod at_ e < e := Int.tmod_lt_of_pos _ (by omega)
      have h3 := hfx.1
      rw [IntKind.wrap_i32] at h3 ⊢
      omega
    rw [hm]
    have hq : Int.tdiv at_ e = at_ / e := Int.tdiv_eq_ediv_of_nonneg h0
    have hq0 : 0 ≤ at_ / e := Int.ediv_nonneg h0 (by omega)
    have hq1 : at_ / e ≤ at_ := Int.ediv_le_self _ h0
    rw [chk_pos (by omega), at_get (by omega)]
    simp only [Option.bind_some, Int.toNat_natCast]
    rw [chk_pos (by omega)]
    rw [dig_L1_int32 p hf hnz k _ _ (by rw [w64] <;> omega) (by rw [w64] <;> omega) (by omega) (by simpa using ho)]

theorem dig_int32 (N : Nat) (p : List Int) (at_ : Int) (hf : ∀ x ∈ p, fit_int32 x) (hN : p.length < N) (hlen : p.length ≤ 17592186044416) : m_radix_Digits_int32 N p at_ = some (dgS p at_) := by
  unfold m_radix_Digits_int32 dgS
  rw [cnt_int32 p hf]
  simp only [Option.bind_some, m_radix_Digits_int32_J1]
  by_cases h0 : (cntS p).2 = 0
  · rw [if_neg (by simp [h0]), if_pos h0]
    by_cases h1 : at_ < 0
    · simp [h1]
    · by_cases h2 : (cntS p).1 ≤ at_
      · simp [h1, h2]
      · have hp := cnt_pos h0 (by omega)
        rw [if_neg (by simpa using h1), if_neg (by simpa using h2), if_neg (by omega)]
        unfold m_radix_digits_int32
        cases hl : p with
        | nil => rfl
        | cons x l =>
          rw [← hl, if_neg (by rw [hl]; simp; omega), chk_pos (by simp only [maxLen]; omega)]
          unfold m_slices_Backward_int32_int32 m_slices_Backward_int32_int32_1
          rw [w64 (by omega), back_int32 N p (by omega) N p.length (Nat.le_refl _) hN]
          simp only [Option.bind_some]
          rw [dig_L1_int32 p hf hp.1 p.length at_ _ (by omega) (by omega) (Nat.le_refl _) (by simp)]
          rfl
  · rw [if_pos (by simpa using h0), if_neg h0]

theorem dg_fit_int32 (p : List Int) (hf : ∀ x ∈ p, fit_int32 x) (hnz : ∀ x ∈ p, 1 ≤ x) : ∀ (k : Nat) (at_ : Int) (out : List Int), 0 ≤ at_ → at_ < 9223372036854775807 → k ≤ p.length → (∀ x ∈ out, fit_int32 x) → ∀ x ∈ dg p k at_ out, fit_int32 x
  | 0, _, _, _, _, _, ho => ho
  | k + 1, at_, out, h0, h9, hk, ho => by
    have hlt : k < p.length := by omega
    have hx := hnz _ (getD_mem hlt)
    have hfx := hf _ (getD_mem hlt)
    simp only [dg]
    generalize p.getD k 0 = e at hx hfx ⊢
    have h1 : 0 ≤ Int.tmod at_ e := Int.tmod_nonneg _ h0
    have h2 : Int.tmod at_ e < e := Int.tmod_lt_of_pos _ (by omega)
    have hq : Int.tdiv at_ e = at_ / e := Int.tdiv_eq_ediv_of_nonneg h0
    have hq0 : 0 ≤ at_ / e := Int.ediv_nonneg h0 (by omega)
    have hq1 : at_ / e ≤ at_ := Int.ediv_le_self _ h0
    have hm : fit_int32 (Int.tmod at_ e) := by
      have h3 := hfx.1
      refine ⟨?_, w64 (by rw [IntKind.wrap_i32] at h3; omega)⟩
      rw [IntKind.wrap_i32] at h3 ⊢; omega
    refine dg_fit_int32 p hf hnz k _ _ (by rw [w64] <;> omega) (by rw [w64] <;> omega) (by omega) fun x hx => ?_
    rcases List.mem_or_eq_of_mem_set hx with h | h
    · exact ho x h
    · rw [h]; exact hm
theorem dgS_fit_int32 (p : List Int) (at_ : Int) (hf : ∀ x ∈ p, fit_int32 x) : ∀ x ∈ (dgS p at_).1, fit_int32 x := by
  unfold dgS
  split
  · rename_i h0
    split
    · simp
    · rename_i h1
      have hp := cnt_pos h0 (by omega)
      refine dg_fit_int32 p hf hp.1 p.length at_ _ (by omega) (by omega) (Nat.le_refl _) fun x hx => ?_
      rw [List.eq_of_mem_replicate hx]
      exact ⟨by decide, by decide⟩
  · simp

/-! at -/
theorem at_same_int32 (N : Nat) (p d : List Int) (hl : d.length = p.length) (hfp : ∀ x ∈ p, fit_int32 x) (hfd : ∀ x ∈ d, fit_int32 x) (hlen : p.length < 4611686018427387904) : ∀ (fuel k : Nat) (at_ : Int), k ≤ p.length → p.length - k < fuel →
    ∃ r, m_radix_At_int32_L1 p (d.drop k) k at_ = some r ∧ m_credenceref10_At_L1 N p d fuel at_ (k : Int) = some r := by
  intro fuel
  induction fuel with
  | zero => intro k _ _ h; omega
  | succ fuel ih =>
    intro k at_ hk hfu
    rw [m_credenceref10_At_L1.eq_2]
    by_cases hlt : k < p.length
    · have hltd : k < d.length := by omega
      have hxp := hfp _ (getD_mem hlt)
      have hxd := hfd _ (getD_mem hltd)
      rw [if_pos (decide_eq_true (by omega)), at_get hltd, drop_getD hltd, m_radix_At_int32_L1.eq_2]
      simp only [Option.bind_some, at_get hlt, m_radix_At_int32_J1, m_credenceref10_At_J1, at_get hltd]
      have ih' := fun at_ => ih (k + 1) at_ (by omega) (by omega)
      generalize p.getD k 0 = s at hxp ⊢
      generalize d.getD k 0 = x at hxd ⊢
      rw [hxp.2, hxd.2]
      by_cases h1 : x < 0
      · exact ⟨(0, 3), by simp [h1], by simp [h1]⟩
      · by_cases h2 : s ≤ x
        · exact ⟨(0, 3), by simp [h1, h2], by simp [h1, h2]⟩
        · simp only [h1, h2, decide_false, Bool.false_eq_true, if_false, wrap_up (show k < 4611686018427387904 by omega)]
          exact ih' _
    · rw [if_neg (by simp; omega), List.drop_eq_nil_of_le (by omega)]
      exact ⟨(at_, 0), rfl, rfl⟩

theorem at_int32 (N : Nat) (p d : List Int) (hfp : ∀ x ∈ p, fit_int32 x) (hfd : ∀ x ∈ d, fit_int32 x) (hN : p.length < N) (hlen : p.length < 4611686018427387904) :
    ∃ r, m_radix_At_int32 p d = some r ∧ m_credenceref10_At N p d = some r := by
  unfold m_radix_At_int32 m_credenceref10_At
  rw [cnt_int32 p hfp, ref_count N p hN hlen]
  simp only [Option.bind_some]
  by_cases h0 : (cntS p).2 = 0
  · have e0 : (!decide ((cntS p).2 = 0)) = false := by simp [h0]
    simp only [e0, Bool.false_eq_true, if_false]
    by_cases h1 : d.length = p.length
    · have e : (!decide ((d.length : Int) = (p.length : Int))) = false := by simp [h1]
      simp only [e, Bool.false_eq_true, if_false]
      have := at_same_int32 N p d h1 hfp hfd hlen N 0 0 (by omega) (by omega)
      simpa using this
    · have h2 : ¬ ((d.length : Int) = (p.length : Int)) := by omega
      have e : (!decide ((d.length : Int) = (p.length : Int))) = true := by simp [h2]
      simp only [e, if_true]
      exact ⟨_, rfl, rfl⟩
  · have e0 : (!decide ((cntS p).2 = 0)) = true := by simp [h0]
    simp only [e0, if_true]
    exact ⟨_, rfl, rfl⟩

/-! the statements' own helpers -/
theorem roomy_int32 (N : Nat) (l : List Int) (hN : 6 ≤ N) (hlen : l.length ≤ 17592186043904) : m_credencelaw10_roomy_int32 N l = some (l.length, l ++ [77, 77, 77, 77, 77]) := by
  obtain ⟨n, rfl⟩ : ∃ n, N = n + 6 := ⟨N - 6, by omega⟩
  unfold m_credencelaw10_roomy_int32
  rw [chk_pos (by simp only [List.length_nil, maxLen]; omega)]
  have s : ∀ (f : Nat) (m : List Int) (i j : Int), i < 5 → IntKind.i64.wrap (i + 1) = j → m.length ≤ 17592186043910 → m_credencelaw10_roomy_int32_L1 (n + 6) l (f + 1) m i = m_credencelaw10_roomy_int32_L1 (n + 6) l f (m ++ [77]) j := by
    intro f m i j h1 h2 h3
    rw [m_credencelaw10_roomy_int32_L1.eq_2, if_pos (decide_eq_true h1), chk_pos (by simp only [List.length_cons, List.length_nil, maxLen]; omega), h2]
  rw [List.nil_append, s (n + 5) _ 0 1 (by omega) (by decide) (by omega), s (n + 4) _ 1 2 (by omega) (by decide) (by simp; omega), s (n + 3) _ 2 3 (by omega) (by decide) (by simp; omega), s (n + 2) _ 3 4 (by omega) (by decide) (by simp; omega),
    s (n + 1) _ 4 5 (by omega) (by decide) (by simp; omega), m_credencelaw10_roomy_int32_L1.eq_2, if_neg (by decide), chk_pos (by simp; omega)]
  simp

theorem plain_int32_L1 (N : Nat) (l : List Int) (hf : ∀ x ∈ l, fit_int32 x) (hlen : l.length ≤ 17592186044416) : ∀ (fuel k : Nat), k ≤ l.length → l.length - k < fuel → m_credencelaw10_plain_int32_L1 N l fuel (l.take k) (k : Int) = some l := by
  intro fuel
  induction fuel with
  | zero => intro k _ h; omega
  | succ fuel ih =>
    intro k hk hfu
    rw [m_credencelaw10_plain_int32_L1.eq_2]
    by_cases hlt : k < l.length
    · have hx := hf _ (getD_mem hlt)
      rw [if_pos (decide_eq_true (by omega)), at_get hlt]
      simp only [Option.bind_some]
      rw [hx.2]
      rw [chk_pos (by simp only [List.length_take, List.length_cons, List.length_nil, maxLen]; omega), wrap_up (by omega)]
      have ht : l.take k ++ [l.getD k 0] = l.take (k + 1) := by
        rw [List.take_add_one]; simp [hlt]
      rw [ht]; exact ih (k + 1) (by omega) (by omega)
    · rw [if_neg (by simp; omega), List.take_of_length_le (by omega)]
theorem plain_int32 (N : Nat) (l : List Int) (hf : ∀ x ∈ l, fit_int32 x) (hN : l.length < N) (hlen : l.length ≤ 17592186044416) : m_credencelaw10_plain_int32 N l = some l := by
  have := plain_int32_L1 N l hf hlen N 0 (by omega) (by omega)
  unfold m_credencelaw10_plain_int32
  simpa using this

theorem same_int32_L1 (N : Nat) (l : List Int) (hf : ∀ x ∈ l, fit_int32 x) (hlen : l.length < 4611686018427387904) : ∀ (fuel k : Nat), k ≤ l.length → l.length - k < fuel → m_credencelaw10_same_int32_L1 N l l fuel (k : Int) = some true := by
  intro fuel
  induction fuel with
  | zero => intro k _ h; omega
  | succ fuel ih =>
    intro k hk hfu
    rw [m_credencelaw10_same_int32_L1.eq_2]
    by_cases hlt : k < l.length
    · have hx := hf _ (getD_mem hlt)
      rw [if_pos (decide_eq_true (by omega)), at_get hlt]
      simp only [Option.bind_some]
      rw [hx.2]
      rw [if_neg (by simp), wrap_up (by omega)]
      exact ih (k + 1) (by omega) (by omega)
    · rw [if_neg (by simp; omega)]
theorem same_int32 (N : Nat) (l : List Int) (hf : ∀ x ∈ l, fit_int32 x) (hN : l.length < N) (hlen : l.length < 4611686018427387904) : m_credencelaw10_same_int32 N l l = some true := by
  unfold m_credencelaw10_same_int32
  rw [if_neg (by simp)]
  exact same_int32_L1 N l hf hlen N 0 (by omega) (by omega)

theorem kept_int32_L1 (N n0 : Nat) (l : List Int) (hn : n0 = l.length) (hlen : l.length ≤ 17592186044416) : ∀ (fuel k : Nat), k ≤ l.length + 5 → l.length + 5 - k < fuel → m_credencelaw10_kept_int32_L1 N n0 (l ++ [77, 77, 77, 77, 77]) l fuel (k : Int) = some true := by
  intro fuel
  induction fuel with
  | zero => intro k _ h; omega
  | succ fuel ih =>
    intro k hk hfu
    rw [m_credencelaw10_kept_int32_L1.eq_2]
    have hw : IntKind.i64.wrap ((l.length : Int) + 5) = ((l.length + 5 : Nat) : Int) := by rw [w64 (by omega)]; omega
    have hL : (l ++ [77, 77, 77, 77, 77]).take (Int.toNat (IntKind.i64.wrap ((l.length : Int) + 5))) = l ++ [77, 77, 77, 77, 77] := by
      rw [hw, Int.toNat_natCast, List.take_of_length_le (by simp)]
    rw [hL]
    have hlen5 : (l ++ [77, 77, 77, 77, 77] : List Int).length = l.length + 5 := by simp
    by_cases h5 : k < l.length + 5
    · rw [if_pos (decide_eq_true (by rw [hlen5]; omega))]
      rw [at_get (by rw [hlen5]; exact h5)]
      simp only [m_credencelaw10_kept_int32_J2, m_credencelaw10_kept_int32_J1, Option.bind_some, wrap_up (show k < 4611686018427387904 by omega), ih (k + 1) (by omega) (by omega)]
      by_cases hlt : k < l.length
      · have hg : (l ++ [77, 77, 77, 77, 77]).getD k 0 = l.getD k 0 := by
          rw [List.getD_eq_getElem?_getD, List.getD_eq_getElem?_getD, List.getElem?_append_left hlt]
        have h6 : ¬ ((l.length : Int) ≤ (k : Int)) := by omega
        rw [if_pos (decide_eq_true (by omega)), at_get hlt, hg]
        simp [h6]
      · have hg : (l ++ [77, 77, 77, 77, 77]).getD k 0 = 77 := by
          rw [List.getD_eq_getElem?_getD, List.getElem?_append_right (by omega)]
          have : k - l.length < 5 := by omega
          generalize k - l.length = j at this
          match j, this with
          | 0, _ => rfl
          | 1, _ => rfl
          | 2, _ => rfl
          | 3, _ => rfl
          | 4, _ => rfl
        have h6 : ((l.length : Int) ≤ (k : Int)) := by omega
        rw [if_neg (by simp; omega), hg]
        simp [h6]
    · rw [if_neg (by rw [hlen5]; simp; omega)]
      simp [hn]
theorem kept_int32 (N : Nat) (l : List Int) (hN : l.length + 5 < N) (hlen : l.length ≤ 17592186044416) : m_credencelaw10_kept_int32 N l.length (l ++ [77, 77, 77, 77, 77]) l = some true := by
  unfold m_credencelaw10_kept_int32
  rw [chk_pos (by rw [w64 (by omega)]; simp; omega)]
  exact kept_int32_L1 N l.length l rfl hlen N 0 (by omega) (by omega)


theorem asked_L2_int32 (N : Nat) (p d : List Int) (r1 r9 : Nat × List Int) (r72 r89 : List Int × Int) (h1 : m_credencelaw10_same_int32 N r72.1 r89.1 = some true) (h2 : m_credencelaw10_kept_int32 N r1.1 r1.2 p = some true) (h3 : m_credencelaw10_kept_int32 N r9.1 r9.2 d = some true)
    (a : List Int) (ha : a.length = r89.1.length) (hlen : a.length ≤ 17592186043904) (hN : 8 ≤ N) : m_credencelaw10_asked_int32_L2 N p d r1 r9 r72 r89 N a 0 = some true := by
  obtain ⟨n, hn⟩ : ∃ n, N = n + 8 := ⟨N - 8, by omega⟩
  have s : ∀ (f : Nat) (m : List Int) (i j : Int), i < 7 → IntKind.i64.wrap (i + 1) = j → m.length ≤ 17592186043911 → m_credencelaw10_asked_int32_L2 N p d r1 r9 r72 r89 (f + 1) m i = m_credencelaw10_asked_int32_L2 N p d r1 r9 r72 r89 f (m ++ [98]) j := by
    intro f m i j h1 h2 h3
    rw [m_credencelaw10_asked_int32_L2.eq_2, if_pos (decide_eq_true h1), chk_pos (by simp only [List.length_cons, List.length_nil, maxLen]; omega), h2]
  have e : ∀ f, f = n + 8 → m_credencelaw10_asked_int32_L2 N p d r1 r9 r72 r89 f a 0 = some true := by
    rintro f rfl
    rw [s (n + 7) _ 0 1 (by omega) (by decide) (by omega), s (n + 6) _ 1 2 (by omega) (by decide) (by simp; omega), s (n + 5) _ 2 3 (by omega) (by decide) (by simp; omega), s (n + 4) _ 3 4 (by omega) (by decide) (by simp; omega),
      s (n + 3) _ 4 5 (by omega) (by decide) (by simp; omega), s (n + 2) _ 5 6 (by omega) (by decide) (by simp; omega), s (n + 1) _ 6 7 (by omega) (by decide) (by simp; omega), m_credencelaw10_asked_int32_L2.eq_2, if_neg (by decide)]
    have hl : ((a ++ [98] ++ [98] ++ [98] ++ [98] ++ [98] ++ [98] ++ [98] : List Int).length : Int) = IntKind.i64.wrap ((r89.1.length : Int) + 7) := by
      rw [w64 (by omega)]; simp; omega
    rw [if_pos (decide_eq_true hl), h1]
    simp only [Option.bind_some, if_true, h2, h3, m_credencelaw10_asked_int32_J3]
  exact e N hn

theorem asked_L1_int32 (N : Nat) (p d : List Int) (r1 r9 : Nat × List Int) (r72 r89 : List Int × Int) : ∀ (fuel k : Nat) (a : List Int), a.length < 4611686018427387904 → k ≤ a.length → a.length - k < fuel →
    ∃ a', a'.length = a.length ∧ m_credencelaw10_asked_int32_L1 N p d r1 r9 r72 r89 fuel a (k : Int) = m_credencelaw10_asked_int32_L2 N p d r1 r9 r72 r89 N a' 0 := by
  intro fuel
  induction fuel with
  | zero => intro k a _ _ h; omega
  | succ fuel ih =>
    intro k a hl hk hf
    rw [m_credencelaw10_asked_int32_L1.eq_2]
    by_cases hlt : k < a.length
    · rw [if_pos (decide_eq_true (by omega)), at_get hlt]
      simp only [Option.bind_some, wrap_up (show k < 4611686018427387904 by omega)]
      obtain ⟨a', h1, h2⟩ := ih (k + 1) (a.set (Int.toNat (k : Int)) 99) (by simpa using hl) (by simp; omega) (by simp; omega)
      exact ⟨a', by simpa using h1, h2⟩
    · rw [if_neg (by simp; omega)]
      exact ⟨a, rfl, rfl⟩

theorem asked_int32 (N : Nat) (p d : List Int) (at_ : Int) (hfp : ∀ x ∈ p, fit_int32 x) (hfd : ∀ x ∈ d, fit_int32 x) (hN : p.length + d.length + 20 ≤ N) (hp : p.length ≤ 17592186043904) (hd : d.length ≤ 17592186043904) :
    m_credencelaw10_asked_int32 N p d at_ = some true := by
  unfold m_credencelaw10_asked_int32
  obtain ⟨r, hr1, hr2⟩ := at_int32 N p d hfp hfd (by omega) (by omega)
  have hk1 := kept_int32 N p (by omega) (by omega)
  have hk2 := kept_int32 N d (by omega) (by omega)
  have hdl := dgS_len p at_
  have hs := same_int32 N (dgS p at_).1 (dgS_fit_int32 p at_ hfp) (by omega) (by omega)
  rw [roomy_int32 N p (by omega) hp, roomy_int32 N d (by omega) hd]
  simp only [Option.bind_some, List.take_left]
  rw [cnt_int32 p hfp, plain_int32 N p hfp (by omega) (by omega), plain_int32 N d hfd (by omega) (by omega)]
  simp only [Option.bind_some]
  rw [ref_count N p (by omega) (by omega)]
  simp only [Option.bind_some]
  rw [hr1, hr2]
  simp only [Option.bind_some, decide_true, Bool.not_true, Bool.false_eq_true, if_false, m_credencelaw10_asked_int32_J1, List.take_left]
  rw [dig_int32 N p at_ hfp (by omega) (by omega), plain_int32 N p hfp (by omega) (by omega)]
  simp only [Option.bind_some]
  rw [ref_digits N p at_ (by omega) (by omega)]
  simp only [Option.bind_some, decide_true, Bool.not_true, Bool.false_eq_true, if_false, hs, m_credencelaw10_asked_int32_J2]
  obtain ⟨a', h1, h2⟩ := asked_L1_int32 N p d (p.length, p ++ [77, 77, 77, 77, 77]) (d.length, d ++ [77, 77, 77, 77, 77]) (dgS p at_) (dgS p at_) N 0 (dgS p at_).1 (by omega) (by omega) (by omega)
  rw [show ((0 : Nat) : Int) = 0 from rfl] at h2
  rw [h2]
  exact asked_L2_int32 N p d _ _ _ _ hs hk1 hk2 a' h1 (by omega) (by omega)


/-- The numbers that the type has. -/
def fit_credencelaw10_Small (x : Int) : Prop := IntKind.u16.wrap x = x ∧ IntKind.i64.wrap x = x

theorem cnt_L2_credencelaw10_Small : ∀ (l : List Int) (n : Int), (∀ x ∈ l, fit_credencelaw10_Small x) → (∀ x ∈ l, 1 ≤ x) → 1 ≤ n → n ≤ 2147483647 → m_radix_Count_credencelaw10_Small_L2 l n = some (goC l n)
  | [], n, _, _, _, _ => rfl
  | x :: l, n, hf, hp, h1, h2 => by
    have hx := hp x (by simp)
    rw [m_radix_Count_credencelaw10_Small_L2.eq_2, chk_pos (by omega), goC]
    rw [(hf x (by simp)).2]
    have hq : Int.tdiv 2147483647 n = 2147483647 / n := Int.tdiv_eq_ediv_of_nonneg (by omega)
    have hq0 : 0 ≤ (2147483647 : Int) / n := Int.ediv_nonneg (by omega) (by omega)
    have hq1 : (2147483647 : Int) / n ≤ 2147483647 := Int.ediv_le_self _ (by omega)
    rw [hq, w64 (by omega)]
    by_cases h : 2147483647 < n * x
    · rw [if_pos h, if_pos (decide_eq_true (by rw [Int.ediv_lt_iff_lt_mul (by omega), Int.mul_comm]; exact h))]
    · have h3 : 1 * 1 ≤ n * x := Int.mul_le_mul h1 hx (by omega) (by omega)
      rw [if_neg h, if_neg (by rw [decide_eq_true_eq, Int.ediv_lt_iff_lt_mul (by omega), Int.mul_comm]; exact h), w64 (by omega)]
      exact cnt_L2_credencelaw10_Small l (n * x) (fun y hy => hf y (by simp [hy])) (fun y hy => hp y (by simp [hy])) (by omega) (by omega)

theorem cnt_L1_credencelaw10_Small (p : List Int) : ∀ (l : List Int) (b : Bool), m_radix_Count_credencelaw10_Small_L1 p l b = if anyNeg l then some (0, 3) else if b || anyZero l then some (0, 0) else m_radix_Count_credencelaw10_Small_L2 p 1
  | [], b => by cases b <;> rfl
  | x :: l, b => by
    rw [m_radix_Count_credencelaw10_Small_L1.eq_2]
    simp only [m_radix_Count_credencelaw10_Small_J1, cnt_L1_credencelaw10_Small p l, anyNeg, anyZero, List.any_cons]
    by_cases h : x < 0
    · simp [h]
    · cases b
      · simp [h]
      · simp [h]

theorem cnt_credencelaw10_Small (p : List Int) (hf : ∀ x ∈ p, fit_credencelaw10_Small x) : m_radix_Count_credencelaw10_Small p = some (cntS p) := by
  unfold m_radix_Count_credencelaw10_Small cntS
  rw [cnt_L1_credencelaw10_Small]
  cases h1 : anyNeg p with
  | true => rfl
  | false =>
    cases h2 : anyZero p with
    | true => rfl
    | false =>
      simp only [Bool.false_eq_true, if_false, Bool.or_false]
      exact cnt_L2_credencelaw10_Small p 1 hf (pos_of h1 h2) (by omega) (by omega)

theorem back_credencelaw10_Small (N : Nat) (p : List Int) (hlen : p.length < 4611686018427387904) : ∀ (fuel k : Nat), k ≤ p.length → k < fuel → m_slices_Backward_credencelaw10_Small_credencelaw10_Small_1_L1 N p fuel ((k : Int) - 1) = some (bp p k) := by
  intro fuel
  induction fuel with
  | zero => intro k _ h; omega
  | succ fuel ih =>
    intro k hk hf
    rw [m_slices_Backward_credencelaw10_Small_credencelaw10_Small_1_L1.eq_2]
    cases k with
    | zero => rw [if_neg (by simp)]; rfl
    | succ k =>
      have hkk : ((k + 1 : Nat) : Int) - 1 = (k : Int) := by omega
      rw [hkk, if_pos (decide_eq_true (by omega)), at_get (by omega)]
      simp only [Option.bind_some]
      rw [w64 (n := (k : Int) - 1) (by omega), ih k (by omega) (by omega)]
      rfl

theorem dig_L1_credencelaw10_Small (p : List Int) (hf : ∀ x ∈ p, fit_credencelaw10_Small x) (hnz : ∀ x ∈ p, 1 ≤ x) : ∀ (k : Nat) (at_ : Int) (out : List Int), 0 ≤ at_ → at_ < 9223372036854775807 → k ≤ p.length → out.length = p.length → m_radix_digits_credencelaw10_Small_L1 (bp p k) at_ out = some (dg p k at_ out)
  | 0, _, _, _, _, _, _ => rfl
  | k + 1, at_, out, h0, h9, hk, ho => by
    have hlt : k < p.length := by omega
    have hx := hnz _ (getD_mem hlt)
    have hfx := hf _ (getD_mem hlt)
    rw [bp, m_radix_digits_credencelaw10_Small_L1.eq_2]
    simp only [dg]
    generalize p.getD k 0 = e at hx hfx ⊢
    rw [hfx.2]
    have hm : IntKind.u16.wrap (Int.tmod at_ e) = Int.tmod at_ e := by
      have h1 : 0 ≤ Int.tmod at_ e := Int.tmod_nonneg _ h0
      have h2 : Int.tmod at_ e < e := Int.tmod_lt_of_pos _ (by omega)
      have h3 := hfx.1
      rw [IntKind.wrap_u16] at h3 ⊢
      omega
    rw [hm]
    have hq : Int.tdiv at_ e = at_ / e := Int.tdiv_eq_ediv_of_nonneg h0
    have hq0 : 0 ≤ at_ / e := Int.ediv_nonneg h0 (by omega)
    have hq1 : at_ / e ≤ at_ := Int.ediv_le_self _ h0
    rw [chk_pos (by omega), at_get (by omega)]
    simp only [Option.bind_some, Int.toNat_natCast]
    rw [chk_pos (by omega)]
    rw [dig_L1_credencelaw10_Small p hf hnz k _ _ (by rw [w64] <;> omega) (by rw [w64] <;> omega) (by omega) (by simpa using ho)]

theorem dig_credencelaw10_Small (N : Nat) (p : List Int) (at_ : Int) (hf : ∀ x ∈ p, fit_credencelaw10_Small x) (hN : p.length < N) (hlen : p.length ≤ 17592186044416) : m_radix_Digits_credencelaw10_Small N p at_ = some (dgS p at_) := by
  unfold m_radix_Digits_credencelaw10_Small dgS
  rw [cnt_credencelaw10_Small p hf]
  simp only [Option.bind_some, m_radix_Digits_credencelaw10_Small_J1]
  by_cases h0 : (cntS p).2 = 0
  · rw [if_neg (by simp [h0]), if_pos h0]
    by_cases h1 : at_ < 0
    · simp [h1]
    · by_cases h2 : (cntS p).1 ≤ at_
      · simp [h1, h2]
      · have hp := cnt_pos h0 (by omega)
        rw [if_neg (by simpa using h1), if_neg (by simpa using h2), if_neg (by omega)]
        unfold m_radix_digits_credencelaw10_Small
        cases hl : p with
        | nil => rfl
        | cons x l =>
          rw [← hl, if_neg (by rw [hl]; simp; omega), chk_pos (by simp only [maxLen]; omega)]
          unfold m_slices_Backward_credencelaw10_Small_credencelaw10_Small m_slices_Backward_credencelaw10_Small_credencelaw10_Small_1
          rw [w64 (by omega), back_credencelaw10_Small N p (by omega) N p.length (Nat.le_refl _) hN]
          simp only [Option.bind_some]
          rw [dig_L1_credencelaw10_Small p hf hp.1 p.length at_ _ (by omega) (by omega) (Nat.le_refl _) (by simp)]
          rfl
  · rw [if_pos (by simpa using h0), if_neg h0]

theorem dg_fit_credencelaw10_Small (p : List Int) (hf : ∀ x ∈ p, fit_credencelaw10_Small x) (hnz : ∀ x ∈ p, 1 ≤ x) : ∀ (k : Nat) (at_ : Int) (out : List Int), 0 ≤ at_ → at_ < 9223372036854775807 → k ≤ p.length → (∀ x ∈ out, fit_credencelaw10_Small x) → ∀ x ∈ dg p k at_ out, fit_credencelaw10_Small x
  | 0, _, _, _, _, _, ho => ho
  | k + 1, at_, out, h0, h9, hk, ho => by
    have hlt : k < p.length := by omega
    have hx := hnz _ (getD_mem hlt)
    have hfx := hf _ (getD_mem hlt)
    simp only [dg]
    generalize p.getD k 0 = e at hx hfx ⊢
    have h1 : 0 ≤ Int.tmod at_ e := Int.tmod_nonneg _ h0
    have h2 : Int.tmod at_ e < e := Int.tmod_lt_of_pos _ (by omega)
    have hq : Int.tdiv at_ e = at_ / e := Int.tdiv_eq_ediv_of_nonneg h0
    have hq0 : 0 ≤ at_ / e := Int.ediv_nonneg h0 (by omega)
    have hq1 : at_ / e ≤ at_ := Int.ediv_le_self _ h0
    have hm : fit_credencelaw10_Small (Int.tmod at_ e) := by
      have h3 := hfx.1
      refine ⟨?_, w64 (by rw [IntKind.wrap_u16] at h3; omega)⟩
      rw [IntKind.wrap_u16] at h3 ⊢; omega
    refine dg_fit_credencelaw10_Small p hf hnz k _ _ (by rw [w64] <;> omega) (by rw [w64] <;> omega) (by omega) fun x hx => ?_
    rcases List.mem_or_eq_of_mem_set hx with h | h
    · exact ho x h
    · rw [h]; exact hm
theorem dgS_fit_credencelaw10_Small (p : List Int) (at_ : Int) (hf : ∀ x ∈ p, fit_credencelaw10_Small x) : ∀ x ∈ (dgS p at_).1, fit_credencelaw10_Small x := by
  unfold dgS
  split
  · rename_i h0
    split
    · simp
    · rename_i h1
      have hp := cnt_pos h0 (by omega)
      refine dg_fit_credencelaw10_Small p hf hp.1 p.length at_ _ (by omega) (by omega) (Nat.le_refl _) fun x hx => ?_
      rw [List.eq_of_mem_replicate hx]
      exact ⟨by decide, by decide⟩
  · simp

/-! at -/
theorem at_same_credencelaw10_Small (N : Nat) (p d : List Int) (hl : d.length = p.length) (hfp : ∀ x ∈ p, fit_credencelaw10_Small x) (hfd : ∀ x ∈ d, fit_credencelaw10_Small x) (hlen : p.length < 4611686018427387904) : ∀ (fuel k : Nat) (at_ : Int), k ≤ p.length → p.length - k < fuel →
    ∃ r, m_radix_At_credencelaw10_Small_L1 p (d.drop k) k at_ = some r ∧ m_credenceref10_At_L1 N p d fuel at_ (k : Int) = some r := by
  intro fuel
  induction fuel with
  | zero => intro k _ _ h; omega
  | succ fuel ih =>
    intro k at_ hk hfu
    rw [m_credenceref10_At_L1.eq_2]
    by_cases hlt : k < p.length
    · have hltd : k < d.length := by omega
      have hxp := hfp _ (getD_mem hlt)
      have hxd := hfd _ (getD_mem hltd)
      rw [if_pos (decide_eq_true (by omega)), at_get hltd, drop_getD hltd, m_radix_At_credencelaw10_Small_L1.eq_2]
      simp only [Option.bind_some, at_get hlt, m_radix_At_credencelaw10_Small_J1, m_credenceref10_At_J1, at_get hltd]
      have ih' := fun at_ => ih (k + 1) at_ (by omega) (by omega)
      generalize p.getD k 0 = s at hxp ⊢
      generalize d.getD k 0 = x at hxd ⊢
      rw [hxp.2, hxd.2]
      by_cases h1 : x < 0
      · exact ⟨(0, 3), by simp [h1], by simp [h1]⟩
      · by_cases h2 : s ≤ x
        · exact ⟨(0, 3), by simp [h1, h2], by simp [h1, h2]⟩
        · simp only [h1, h2, decide_false, Bool.false_eq_true, if_false, wrap_up (show k < 4611686018427387904 by omega)]
          exact ih' _
    · rw [if_neg (by simp; omega), List.drop_eq_nil_of_le (by omega)]
      exact ⟨(at_, 0), rfl, rfl⟩

theorem at_credencelaw10_Small (N : Nat) (p d : List Int) (hfp : ∀ x ∈ p, fit_credencelaw10_Small x) (hfd : ∀ x ∈ d, fit_credencelaw10_Small x) (hN : p.length < N) (hlen : p.length < 4611686018427387904) :
    ∃ r, m_radix_At_credencelaw10_Small p d = some r ∧ m_credenceref10_At N p d = some r := by
  unfold m_radix_At_credencelaw10_Small m_credenceref10_At
  rw [cnt_credencelaw10_Small p hfp, ref_count N p hN hlen]
  simp only [Option.bind_some]
  by_cases h0 : (cntS p).2 = 0
  · have e0 : (!decide ((cntS p).2 = 0)) = false := by simp [h0]
    simp only [e0, Bool.false_eq_true, if_false]
    by_cases h1 : d.length = p.length
    · have e : (!decide ((d.length : Int) = (p.length : Int))) = false := by simp [h1]
      simp only [e, Bool.false_eq_true, if_false]
      have := at_same_credencelaw10_Small N p d h1 hfp hfd hlen N 0 0 (by omega) (by omega)
      simpa using this
    · have h2 : ¬ ((d.length : Int) = (p.length : Int)) := by omega
      have e : (!decide ((d.length : Int) = (p.length : Int))) = true := by simp [h2]
      simp only [e, if_true]
      exact ⟨_, rfl, rfl⟩
  · have e0 : (!decide ((cntS p).2 = 0)) = true := by simp [h0]
    simp only [e0, if_true]
    exact ⟨_, rfl, rfl⟩

/-! the statements' own helpers -/
theorem roomy_credencelaw10_Small (N : Nat) (l : List Int) (hN : 6 ≤ N) (hlen : l.length ≤ 17592186043904) : m_credencelaw10_roomy_credencelaw10_Small N l = some (l.length, l ++ [77, 77, 77, 77, 77]) := by
  obtain ⟨n, rfl⟩ : ∃ n, N = n + 6 := ⟨N - 6, by omega⟩
  unfold m_credencelaw10_roomy_credencelaw10_Small
  rw [chk_pos (by simp only [List.length_nil, maxLen]; omega)]
  have s : ∀ (f : Nat) (m : List Int) (i j : Int), i < 5 → IntKind.i64.wrap (i + 1) = j → m.length ≤ 17592186043910 → m_credencelaw10_roomy_credencelaw10_Small_L1 (n + 6) l (f + 1) m i = m_credencelaw10_roomy_credencelaw10_Small_L1 (n + 6) l f (m ++ [77]) j := by
    intro f m i j h1 h2 h3
    rw [m_credencelaw10_roomy_credencelaw10_Small_L1.eq_2, if_pos (decide_eq_true h1), chk_pos (by simp only [List.length_cons, List.length_nil, maxLen]; omega), h2]
  rw [List.nil_append, s (n + 5) _ 0 1 (by omega) (by decide) (by omega), s (n + 4) _ 1 2 (by omega) (by decide) (by simp; omega), s (n + 3) _ 2 3 (by omega) (by decide) (by simp; omega), s (n + 2) _ 3 4 (by omega) (by decide) (by simp; omega),
    s (n + 1) _ 4 5 (by omega) (by decide) (by simp; omega), m_credencelaw10_roomy_credencelaw10_Small_L1.eq_2, if_neg (by decide), chk_pos (by simp; omega)]
  simp

theorem plain_credencelaw10_Small_L1 (N : Nat) (l : List Int) (hf : ∀ x ∈ l, fit_credencelaw10_Small x) (hlen : l.length ≤ 17592186044416) : ∀ (fuel k : Nat), k ≤ l.length → l.length - k < fuel → m_credencelaw10_plain_credencelaw10_Small_L1 N l fuel (l.take k) (k : Int) = some l := by
  intro fuel
  induction fuel with
  | zero => intro k _ h; omega
  | succ fuel ih =>
    intro k hk hfu
    rw [m_credencelaw10_plain_credencelaw10_Small_L1.eq_2]
    by_cases hlt : k < l.length
    · have hx := hf _ (getD_mem hlt)
      rw [if_pos (decide_eq_true (by omega)), at_get hlt]
      simp only [Option.bind_some]
      rw [hx.2]
      rw [chk_pos (by simp only [List.length_take, List.length_cons, List.length_nil, maxLen]; omega), wrap_up (by omega)]
      have ht : l.take k ++ [l.getD k 0] = l.take (k + 1) := by
        rw [List.take_add_one]; simp [hlt]
      rw [ht]; exact ih (k + 1) (by omega) (by omega)
    · rw [if_neg (by simp; omega), List.take_of_length_le (by omega)]
theorem plain_credencelaw10_Small (N : Nat) (l : List Int) (hf : ∀ x ∈ l, fit_credencelaw10_Small x) (hN : l.length < N) (hlen : l.length ≤ 17592186044416) : m_credencelaw10_plain_credencelaw10_Small N l = some l := by
  have := plain_credencelaw10_Small_L1 N l hf hlen N 0 (by omega) (by omega)
  unfold m_credencelaw10_plain_credencelaw10_Small
  simpa using this

theorem same_credencelaw10_Small_L1 (N : Nat) (l : List Int) (hf : ∀ x ∈ l, fit_credencelaw10_Small x) (hlen : l.length < 4611686018427387904) : ∀ (fuel k : Nat), k ≤ l.length → l.length - k < fuel → m_credencelaw10_same_credencelaw10_Small_L1 N l l fuel (k : Int) = some true := by
  intro fuel
  induction fuel with
  | zero => intro k _ h; omega
  | succ fuel ih =>
    intro k hk hfu
    rw [m_credencelaw10_same_credencelaw10_Small_L1.eq_2]
    by_cases hlt : k < l.length
    · have hx := hf _ (getD_mem hlt)
      rw [if_pos (decide_eq_true (by omega)), at_get hlt]
      simp only [Option.bind_some]
      rw [hx.2]
      rw [if_neg (by simp), wrap_up (by omega)]
      exact ih (k + 1) (by omega) (by omega)
    · rw [if_neg (by simp; omega)]
theorem same_credencelaw10_Small (N : Nat) (l : List Int) (hf : ∀ x ∈ l, fit_credencelaw10_Small x) (hN : l.length < N) (hlen : l.length < 4611686018427387904) : m_credencelaw10_same_credencelaw10_Small N l l = some true := by
  unfold m_credencelaw10_same_credencelaw10_Small
  rw [if_neg (by simp)]
  exact same_credencelaw10_Small_L1 N l hf hlen N 0 (by omega) (by omega)

theorem kept_credencelaw10_Small_L1 (N n0 : Nat) (l : List Int) (hn : n0 = l.length) (hlen : l.length ≤ 17592186044416) : ∀ (fuel k : Nat), k ≤ l.length + 5 → l.length + 5 - k < fuel → m_credencelaw10_kept_credencelaw10_Small_L1 N n0 (l ++ [77, 77, 77, 77, 77]) l fuel (k : Int) = some true := by
  intro fuel
  induction fuel with
  | zero => intro k _ h; omega
  | succ fuel ih =>
    intro k hk hfu
    rw [m_credencelaw10_kept_credencelaw10_Small_L1.eq_2]
    have hw : IntKind.i64.wrap ((l.length : Int) + 5) = ((l.length + 5 : Nat) : Int) := by rw [w64 (by omega)]; omega
    have hL : (l ++ [77, 77, 77, 77, 77]).take (Int.toNat (IntKind.i64.wrap ((l.length : Int) + 5))) = l ++ [77, 77, 77, 77, 77] := by
      rw [hw, Int.toNat_natCast, List.take_of_length_le (by simp)]
    rw [hL]
    have hlen5 : (l ++ [77, 77, 77, 77, 77] : List Int).length = l.length + 5 := by simp
    by_cases h5 : k < l.length + 5
    · rw [if_pos (decide_eq_true (by rw [hlen5]; omega))]
      rw [at_get (by rw [hlen5]; exact h5)]
      simp only [m_credencelaw10_kept_credencelaw10_Small_J2, m_credencelaw10_kept_credencelaw10_Small_J1, Option.bind_some, wrap_up (show k < 4611686018427387904 by omega), ih (k + 1) (by omega) (by omega)]
      by_cases hlt : k < l.length
      · have hg : (l ++ [77, 77, 77, 77, 77]).getD k 0 = l.getD k 0 := by
          rw [List.getD_eq_getElem?_getD, List.getD_eq_getElem?_getD, List.getElem?_append_left hlt]
        have h6 : ¬ ((l.length : Int) ≤ (k : Int)) := by omega
        rw [if_pos (decide_eq_true (by omega)), at_get hlt, hg]
        simp [h6]
      · have hg : (l ++ [77, 77, 77, 77, 77]).getD k 0 = 77 := by
          rw [List.getD_eq_getElem?_getD, List.getElem?_append_right (by omega)]
          have : k - l.length < 5 := by omega
          generalize k - l.length = j at this
          match j, this with
          | 0, _ => rfl
          | 1, _ => rfl
          | 2, _ => rfl
          | 3, _ => rfl
          | 4, _ => rfl
        have h6 : ((l.length : Int) ≤ (k : Int)) := by omega
        rw [if_neg (by simp; omega), hg]
        simp [h6]
    · rw [if_neg (by rw [hlen5]; simp; omega)]
      simp [hn]
theorem kept_credencelaw10_Small (N : Nat) (l : List Int) (hN : l.length + 5 < N) (hlen : l.length ≤ 17592186044416) : m_credencelaw10_kept_credencelaw10_Small N l.length (l ++ [77, 77, 77, 77, 77]) l = some true := by
  unfold m_credencelaw10_kept_credencelaw10_Small
  rw [chk_pos (by rw [w64 (by omega)]; simp; omega)]
  exact kept_credencelaw10_Small_L1 N l.length l rfl hlen N 0 (by omega) (by omega)


theorem asked_L2_credencelaw10_Small (N : Nat) (p d : List Int) (r1 r9 : Nat × List Int) (r72 r89 : List Int × Int) (h1 : m_credencelaw10_same_credencelaw10_Small N r72.1 r89.1 = some true) (h2 : m_credencelaw10_kept_credencelaw10_Small N r1.1 r1.2 p = some true) (h3 : m_credencelaw10_kept_credencelaw10_Small N r9.1 r9.2 d = some true)
    (a : List Int) (ha : a.length = r89.1.length) (hlen : a.length ≤ 17592186043904) (hN : 8 ≤ N) : m_credencelaw10_asked_credencelaw10_Small_L2 N p d r1 r9 r72 r89 N a 0 = some true := by
  obtain ⟨n, hn⟩ : ∃ n, N = n + 8 := ⟨N - 8, by omega⟩
  have s : ∀ (f : Nat) (m : List Int) (i j : Int), i < 7 → IntKind.i64.wrap (i + 1) = j → m.length ≤ 17592186043911 → m_credencelaw10_asked_credencelaw10_Small_L2 N p d r1 r9 r72 r89 (f + 1) m i = m_credencelaw10_asked_credencelaw10_Small_L2 N p d r1 r9 r72 r89 f (m ++ [98]) j := by
    intro f m i j h1 h2 h3
    rw [m_credencelaw10_asked_credencelaw10_Small_L2.eq_2, if_pos (decide_eq_true h1), chk_pos (by simp only [List.length_cons, List.length_nil, maxLen]; omega), h2]
  have e : ∀ f, f = n + 8 → m_credencelaw10_asked_credencelaw10_Small_L2 N p d r1 r9 r72 r89 f a 0 = some true := by
    rintro f rfl
    rw [s (n + 7) _ 0 1 (by omega) (by decide) (by omega), s (n + 6) _ 1 2 (by omega) (by decide) (by simp; omega), s (n + 5) _ 2 3 (by omega) (by decide) (by simp; omega), s (n + 4) _ 3 4 (by omega) (by decide) (by simp; omega),
      s (n + 3) _ 4 5 (by omega) (by decide) (by simp; omega), s (n + 2) _ 5 6 (by omega) (by decide) (by simp; omega), s (n + 1) _ 6 7 (by omega) (by decide) (by simp; omega), m_credencelaw10_asked_credencelaw10_Small_L2.eq_2, if_neg (by decide)]
    have hl : ((a ++ [98] ++ [98] ++ [98] ++ [98] ++ [98] ++ [98] ++ [98] : List Int).length : Int) = IntKind.i64.wrap ((r89.1.length : Int) + 7) := by
      rw [w64 (by omega)]; simp; omega
    rw [if_pos (decide_eq_true hl), h1]
    simp only [Option.bind_some, if_true, h2, h3, m_credencelaw10_asked_credencelaw10_Small_J3]
  exact e N hn

theorem asked_L1_credencelaw10_Small (N : Nat) (p d : List Int) (r1 r9 : Nat × List Int) (r72 r89 : List Int × Int) : ∀ (fuel k : Nat) (a : List Int), a.length < 4611686018427387904 → k ≤ a.length → a.length - k < fuel →
    ∃ a', a'.length = a.length ∧ m_credencelaw10_asked_credencelaw10_Small_L1 N p d r1 r9 r72 r89 fuel a (k : Int) = m_credencelaw10_asked_credencelaw10_Small_L2 N p d r1 r9 r72 r89 N a' 0 := by
  intro fuel
  induction fuel with
  | zero => intro k a _ _ h; omega
  | succ fuel ih =>
    intro k a hl hk hf
    rw [m_credencelaw10_asked_credencelaw10_Small_L1.eq_2]
    by_cases hlt : k < a.length
    · rw [if_pos (decide_eq_true (by omega)), at_get hlt]
      simp only [Option.bind_some, wrap_up (show k < 4611686018427387904 by omega)]
      obtain ⟨a', h1, h2⟩ := ih (k + 1) (a.set (Int.toNat (k : Int)) 99) (by simpa using hl) (by simp; omega) (by simp; omega)
      exact ⟨a', by simpa using h1, h2⟩
    · rw [if_neg (by simp; omega)]
      exact ⟨a, rfl, rfl⟩

theorem asked_credencelaw10_Small (N : Nat) (p d : List Int) (at_ : Int) (hfp : ∀ x ∈ p, fit_credencelaw10_Small x) (hfd : ∀ x ∈ d, fit_credencelaw10_Small x) (hN : p.length + d.length + 20 ≤ N) (hp : p.length ≤ 17592186043904) (hd : d.length ≤ 17592186043904) :
    m_credencelaw10_asked_credencelaw10_Small N p d at_ = some true := by
  unfold m_credencelaw10_asked_credencelaw10_Small
  obtain ⟨r, hr1, hr2⟩ := at_credencelaw10_Small N p d hfp hfd (by omega) (by omega)
  have hk1 := kept_credencelaw10_Small N p (by omega) (by omega)
  have hk2 := kept_credencelaw10_Small N d (by omega) (by omega)
  have hdl := dgS_len p at_
  have hs := same_credencelaw10_Small N (dgS p at_).1 (dgS_fit_credencelaw10_Small p at_ hfp) (by omega) (by omega)
  rw [roomy_credencelaw10_Small N p (by omega) hp, roomy_credencelaw10_Small N d (by omega) hd]
  simp only [Option.bind_some, List.take_left]
  rw [cnt_credencelaw10_Small p hfp, plain_credencelaw10_Small N p hfp (by omega) (by omega), plain_credencelaw10_Small N d hfd (by omega) (by omega)]
  simp only [Option.bind_some]
  rw [ref_count N p (by omega) (by omega)]
  simp only [Option.bind_some]
  rw [hr1, hr2]
  simp only [Option.bind_some, decide_true, Bool.not_true, Bool.false_eq_true, if_false, m_credencelaw10_asked_credencelaw10_Small_J1, List.take_left]
  rw [dig_credencelaw10_Small N p at_ hfp (by omega) (by omega), plain_credencelaw10_Small N p hfp (by omega) (by omega)]
  simp only [Option.bind_some]
  rw [ref_digits N p at_ (by omega) (by omega)]
  simp only [Option.bind_some, decide_true, Bool.not_true, Bool.false_eq_true, if_false, hs, m_credencelaw10_asked_credencelaw10_Small_J2]
  obtain ⟨a', h1, h2⟩ := asked_L1_credencelaw10_Small N p d (p.length, p ++ [77, 77, 77, 77, 77]) (d.length, d ++ [77, 77, 77, 77, 77]) (dgS p at_) (dgS p at_) N 0 (dgS p at_).1 (by omega) (by omega) (by omega)
  rw [show ((0 : Nat) : Int) = 0 from rfl] at h2
  rw [h2]
  exact asked_L2_credencelaw10_Small N p d _ _ _ _ hs hk1 hk2 a' h1 (by omega) (by omega)

end Go.Proofs.Ytgfaoflipkmpcaa
