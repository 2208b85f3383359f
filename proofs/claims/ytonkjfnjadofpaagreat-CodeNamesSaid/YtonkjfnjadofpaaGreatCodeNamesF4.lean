/-
  What functions of the program compute, as plain Lean functions (m_..), and proofs that they compute it (c_..). Printed by a program of the author; no conditions.
-/
import Derived.Test.YtonkjfnjadofpaaGreatCodeNamesBFloat
import Derived.Test.YtonkjfnjadofpaaGreatProg
import Derived.Test.YtonkjfnjadofpaaGreatCodeNamesBThree
import Derived.Test.YtonkjfnjadofpaaGreatCodeNamesF3
set_option linter.unusedVariables false
set_option maxRecDepth 100000
set_option maxHeartbeats 2000000
namespace Go.Proofs.YtonkjfnjadofpaaGreat
open Go Go.RowKit

theorem el114_111 : ElemOk Tryz.prog 114 1 4 := ⟨Tryz.t114, _, rfl, rfl, rfl, rfl, rfl⟩
def m_nat_Shift_J1 (N : Nat) (p0_a : (List Int)) (p1_n : Int) (v_5 : Bool) : Option ((List Int) × Int) :=
  if v_5 = true then none else ((m_nat_trim N p0_a).bind fun r_6 => if (decide (0 ≤ p1_n)) = true then (chk (((Int.toNat (IntKind.i64.wrap ((IntKind.i64.wrap ((IntKind.i64.wrap (Int.tdiv p1_n 32)) + (r_6.length : Int))) + 1))) * 4 ≤ 281474976710656 ∧ (Int.toNat (IntKind.i64.wrap ((IntKind.i64.wrap ((IntKind.i64.wrap (Int.tdiv p1_n 32)) + (r_6.length : Int))) + 1))) ≤ maxLen ∧ 0 ≤ (IntKind.i64.wrap ((IntKind.i64.wrap ((IntKind.i64.wrap (Int.tdiv p1_n 32)) + (r_6.length : Int))) + 1))) ∧ 0 ≤ (IntKind.i64.wrap (Int.tdiv p1_n 32)) ∧ (Int.toNat (IntKind.i64.wrap (Int.tdiv p1_n 32))) ≤ (Int.toNat (IntKind.i64.wrap ((IntKind.i64.wrap ((IntKind.i64.wrap (Int.tdiv p1_n 32)) + (r_6.length : Int))) + 1)))) ((m_nat_left r_6 (Int.tmod p1_n 32)).bind fun r_20 => chk (((List.replicate (Int.toNat (IntKind.i64.wrap (Int.tdiv p1_n 32))) (0 : Int)).length + r_20.length) * 4 ≤ 140737488355328 ∧ (List.replicate (Int.toNat (IntKind.i64.wrap (Int.tdiv p1_n 32))) (0 : Int)).length + r_20.length ≤ maxLen) ((m_nat_own N ((List.replicate (Int.toNat (IntKind.i64.wrap (Int.tdiv p1_n 32))) (0 : Int)) ++ r_20)).bind fun r_35 => some (r_35, 0)))) else none)
def m_nat_Shift (N : Nat) (p0_a : (List Int)) (p1_n : Int) : Option ((List Int) × Int) :=
  if (decide (p1_n < (-262144))) = true then (m_nat_Shift_J1 N p0_a p1_n true) else (m_nat_Shift_J1 N p0_a p1_n (decide (262144 < p1_n)))
theorem c_nat_Shift (N : Nat) (c1 : Nat) (col : Col) (w0 : World) (a0 : Option Addr) (cap0 : Nat) (p0_a : (List Int)) (p1_n : Int) (h0 : Sl (Rep.int .u32) col w0 a0 cap0 p0_a) (r : ((List Int) × Int)) (hm : m_nat_Shift N p0_a p1_n = some r) :
    Calls Tryz.prog 111 #[(.slice a0 p0_a.length cap0), (.int .i64 p1_n)] w0 (fun e w' => ∃ (col' : Col) (ra1 : Option Addr) (rc2 : Nat), e = .returned (.tuple #[(.slice ra1 r.1.length rc2), (.int .i64 r.2)]) ∧ Grow col w0 col' w' ∧ Own (Rep.int .u32) 114 c1 col' w' ra1 rc2 r.1) := by
 refine calls_of2 4 5 (m := 82) (args := [(.slice a0 p0_a.length cap0), (.int .i64 p1_n)]) Tryz.func111 rfl rfl rfl rfl rfl ?_
 rw [m_nat_Shift.eq_1] at hm
 have hst := St.start col w0
 refine wS (wR ?_)
 refine lA (.slice none (([] : List Int).length) 0) ?_
 refine lA (.int .i64 0) ?_
 refine lN (wS (wS ?_))
 replace h0 := h0.keep (Stay.start col w0)
 refine Wp.cut (fun f w_3 => ∃ (col_4 : Col) (v_5 : Bool), m_nat_Shift_J1 N p0_a p1_n v_5 = some r ∧ St w0 (col0 col) col_4 w_3 ∧ Sl (Rep.int .u32) col_4 w_3 a0 cap0 p0_a ∧ f 0 = (.slice a0 p0_a.length cap0) ∧ f 1 = (.int .i64 p1_n) ∧ f 15 = (.bool v_5) ∧ f 1000000 = (enc [])) ?_ ?_
 ·intro f w_3 hJ
  obtain ⟨col_4, v_5, hm, hst, h0, hs0, hs1, hs15, hs1000000⟩ := hJ
  rw [m_nat_Shift_J1.eq_1] at hm
  refine .lD 0 hs0 ?_
  refine .lD 1 hs1 ?_
  refine .lD 15 hs15 ?_
  refine .lD 1000000 hs1000000 ?_
  clear hs0 hs1 hs15 hs1000000
  refine wcond (v_5) rfl (fun hb => ?_) (fun hb => ?_)
  ·rw [if_pos hb] at hm
   clear hb
   cases hm
  rw [if_neg (by rw [hb]; decide)] at hm
  clear hb
  refine wK (wS (wR ?_))
  refine lM (.slice a0 p0_a.length cap0) ?_
  obtain ⟨r_6, hr_7, hm⟩ := bS hm
  refine lc rfl rfl (r_call1 Tryz.call88 rfl) (c_nat_trim N col_4 _ a0 cap0 p0_a h0 r_6 hr_7) ?_
  rintro _ w_11 ⟨col_13, ra_8, rc_9, rfl, hg_12, rh_10⟩
  refine ⟨_, rfl, ?_⟩
  refine lA (.slice ra_8 r_6.length rc_9) ?_
  refine lN (wS (wS (wR ?_)))
  refine lM (.int .i64 p1_n) ?_
  refine lV (.bool (decide (0 ≤ p1_n))) (r_geq p1_n 0 rfl rfl) ?_
  refine lN ?_
  replace hst := hst.grow hg_12
  refine wcond (decide (0 ≤ p1_n)) rfl (fun hb => ?_) (fun hb => ?_)
  ·rw [if_pos hb] at hm
   clear hb
   refine wS (wR ?_)
   refine lM (.int .i64 p1_n) ?_
   refine lV (.int .i64 (IntKind.i64.wrap (Int.tdiv p1_n 32))) (r_quo p1_n 32 rfl rfl (by decide)) ?_
   refine lM (.int .i64 p1_n) ?_
   refine lV (.int .i64 (IntKind.i64.wrap (Int.tdiv p1_n 32))) (r_quo p1_n 32 rfl rfl (by decide)) ?_
   refine lM (.slice ra_8 r_6.length rc_9) ?_
   refine lV (.int .i64 (r_6.length : Int)) (r_len Tryz.underlying36 rfl) ?_
   refine lV (.int .i64 (IntKind.i64.wrap ((IntKind.i64.wrap (Int.tdiv p1_n 32)) + (r_6.length : Int)))) (r_add (IntKind.i64.wrap (Int.tdiv p1_n 32)) (r_6.length : Int) rfl rfl) ?_
   refine lV (.int .i64 (IntKind.i64.wrap ((IntKind.i64.wrap ((IntKind.i64.wrap (Int.tdiv p1_n 32)) + (r_6.length : Int))) + 1))) (r_add (IntKind.i64.wrap ((IntKind.i64.wrap (Int.tdiv p1_n 32)) + (r_6.length : Int))) 1 rfl rfl) ?_
   obtain ⟨hb_14, hm⟩ := cS hm
   refine l_makeR (col := col_13) (w := w_11) (r := (Rep.int .u32)) (l := (Int.toNat (IntKind.i64.wrap (Int.tdiv p1_n 32)))) (n := (Int.toNat (IntKind.i64.wrap ((IntKind.i64.wrap ((IntKind.i64.wrap (Int.tdiv p1_n 32)) + (r_6.length : Int))) + 1)))) (x0 := 0) 1 rfl Tryz.underlying36 Tryz.t114 rfl rfl rfl rfl rfl (congrArg (Value.int _) (Int.toNat_of_nonneg hb_14.2.1).symm) (congrArg (Value.int _) (Int.toNat_of_nonneg hb_14.1.2.2).symm) hb_14.1.1 hb_14.1.2.1 hb_14.2.2 (rd_int .u32 0) ?_
   intro a_15 w_16 col_17 hg_18 h_19
   refine lA (.slice a_15 ((List.replicate (Int.toNat (IntKind.i64.wrap (Int.tdiv p1_n 32))) (0 : Int)).length) (Int.toNat (IntKind.i64.wrap ((IntKind.i64.wrap ((IntKind.i64.wrap (Int.tdiv p1_n 32)) + (r_6.length : Int))) + 1)))) ?_
   refine lN (wS (wR ?_))
   refine lM (.slice a_15 ((List.replicate (Int.toNat (IntKind.i64.wrap (Int.tdiv p1_n 32))) (0 : Int)).length) (Int.toNat (IntKind.i64.wrap ((IntKind.i64.wrap ((IntKind.i64.wrap (Int.tdiv p1_n 32)) + (r_6.length : Int))) + 1)))) ?_
   refine lM (.slice ra_8 r_6.length rc_9) ?_
   refine lM (.int .i64 p1_n) ?_
   refine lV (.int .i64 (Int.tmod p1_n 32)) (r_rem p1_n 32 rfl rfl (by decide)) ?_
   obtain ⟨r_20, hr_21, hm⟩ := bS hm
   replace rh_10 := rh_10.gr hg_18
   refine lc rfl rfl (r_call2 Tryz.call144 rfl rfl) (c_nat_left 2 col_17 _ ra_8 rc_9 r_6 (Int.tmod p1_n 32) rh_10 r_20 hr_21) ?_
   rintro _ w_25 ⟨col_27, ra_22, rc_23, rfl, hg_26, rh_24⟩
   refine ⟨_, rfl, ?_⟩
   obtain ⟨hb_28, hm⟩ := cS hm
   replace h_19 := h_19.gr hg_26
   refine l_appendM (col := col_27) (w := w_25) (r := (Rep.int .u32)) (c := 1) (c2 := 1) (xs := List.replicate (Int.toNat (IntKind.i64.wrap (Int.tdiv p1_n 32))) (0 : Int)) (ys := r_20) h_19 (rh_24.srcN (NB.int (k := .u32))) rfl Tryz.underlying36 el114_111 rfl rfl rfl hb_28.1 hb_28.2 (by decide) ?_
   intro a_29 cap_30 w_31 col_32 hk_33 h_34
   clear h_19
   obtain ⟨r_35, hr_36, hm⟩ := bS hm
   refine lc rfl rfl (r_call1 Tryz.call89 rfl) (c_nat_own N 3 (frC 1 col_32) _ a_29 cap_30 ((List.replicate (Int.toNat (IntKind.i64.wrap (Int.tdiv p1_n 32))) (0 : Int)) ++ r_20) (h_34.toSlF (Froz.int .u32)) r_35 hr_36) ?_
   rintro _ w_40 ⟨col_42, ra_37, rc_38, rfl, hg_41, rh_39⟩
   refine ⟨_, rfl, ?_⟩
   replace rh_39 := rh_39.thaw (flat_int .u32) hg_41 ((Fz.refl (col := col_32)).froz 1) (by decide)
   replace hg_41 := hg_41.thawR (col := col_32)
   generalize colR w_31.heap.size col_32 col_42 = col_43 at *
   refine lA (.slice ra_37 r_35.length rc_38) ?_
   refine lA (.int .i64 0) ?_
   refine lN ?_
   refine wret ?_
   cases hm
   replace hst := (((hst.grow hg_18).grow hg_26).kpp hk_33).grow hg_41
   exact ⟨rfl, colF w0.heap.size col col_43 (fun n => bif Nat.beq n 3 then c1 else 0), ra_37, rc_38, rfl, hst.fin (fun n => bif Nat.beq n 3 then c1 else 0), hst.finOwn (g := (fun n => bif Nat.beq n 3 then c1 else 0)) rfl rh_39 (by decide) (by decide) rfl⟩
  rw [if_neg (by rw [hb]; decide)] at hm
  clear hb
  cases hm
 refine wR ?_
 refine lM (.int .i64 p1_n) ?_
 refine lV (.bool (decide (p1_n < (-262144)))) (r_lss p1_n (-262144) rfl rfl) ?_
 refine lM (.bool (decide (p1_n < (-262144)))) ?_
 by_cases hg_44 : (decide (p1_n < (-262144))) = true
 ·rw [if_pos hg_44] at hm
  refine lp (b := decide (p1_n < (-262144))) 12 rfl rfl rfl rfl (by rw [hg_44]; rfl) ?_
  refine lp (b := decide (p1_n < (-262144))) 12 rfl rfl rfl rfl (by rw [hg_44]; rfl) ?_
  refine lV (.bool true) (r_pickT (congrArg Value.bool hg_44) rfl) ?_
  refine lN ?_
  exact ⟨(col0 col), true, hm, hst, h0, rfl, rfl, rfl, rfl⟩
 rw [if_neg hg_44] at hm
 replace hg_44 := Bool.eq_false_iff.2 hg_44
 refine lg (b := decide (p1_n < (-262144))) 12 rfl rfl rfl (by rw [hg_44]; rfl) ?_
 refine lM (.int .i64 p1_n) ?_
 refine lg (b := decide (p1_n < (-262144))) 12 rfl rfl rfl (by rw [hg_44]; rfl) ?_
 refine lV (.bool (decide (262144 < p1_n))) (r_gtr p1_n 262144 rfl rfl) ?_
 refine lV (.bool (decide (262144 < p1_n))) (r_pickF (congrArg Value.bool hg_44) rfl) ?_
 refine lN ?_
 exact ⟨(col0 col), (decide (262144 < p1_n)), hm, hst, h0, rfl, rfl, rfl, rfl⟩
theorem el114_63 : ElemOk Tryz.prog 114 1 4 := ⟨Tryz.t114, _, rfl, rfl, rfl, rfl, rfl⟩
def m_code_power_L1 (N : Nat)  : Nat → Int → (List Int) → Option ((Bool × (List Int)) × (List Int))
  | 0, _, _ => none
  | n_11 + 1, k_14, p_15 => if (decide (0 < k_14)) = true then ((m_nat_Shift N p_15 (if 262144 < k_14 then 262144 else k_14)).bind fun r_19 => (m_code_power_L1 N n_11) (IntKind.i64.wrap (k_14 - (if 262144 < k_14 then 262144 else k_14))) r_19.1) else (some ((false, p_15), [1]))
termination_by structural x => x
def m_code_power (N : Nat) (p0_k : Int) : Option ((Bool × (List Int)) × (List Int)) :=
  m_code_power_L1 N N p0_k [1]
theorem c_code_power (N : Nat) (c1 : Nat) (c2 : Nat) (col : Col) (w0 : World) (p0_k : Int) (r : ((Bool × (List Int)) × (List Int))) (hm : m_code_power N p0_k = some r) :
    Calls Tryz.prog 63 #[(.int .i64 p0_k)] w0 (fun e w' => ∃ (col' : Col) (ra1 : Option Addr) (rc2 : Nat) (ra4 : Option Addr) (rc5 : Nat), e = .returned ((.agg #[(.bool r.1.1), (.slice ra1 r.1.2.length rc2), (.slice ra4 r.2.length rc5)])) ∧ Grow col w0 col' w' ∧ Own (Rep.int .u32) 114 c1 col' w' ra1 rc2 r.1.2 ∧ Own (Rep.int .u32) 114 c2 col' w' ra4 rc5 r.2) := by
 refine calls_ofR (m := 23) (args := [(.int .i64 p0_k)]) Tryz.func63 rfl rfl rfl ?_
 rw [m_code_power.eq_1] at hm
 have hst := St.start col w0
 refine wS (wR ?_)
 refine l_alloc (col := (col0 col)) (v := (.agg #[(.bool false), (.slice none (([] : List Int).length) 0), (.slice none (([] : List Int).length) 0)])) 1 rfl Tryz.zeroValue40 ?_
 intro g_1 w_2 col_3 hg_4 hb_5
 replace hb_5 : Box 40 1 col_3 w_2 g_1 #[(.bool false), (.slice none (([] : List Int).length) 0), (.slice none (([] : List Int).length) 0)] := hb_5
 refine lN (wS (wR ?_))
 refine l_lit (col := col_3) (r := (Rep.int .u32)) (xs := [1]) [(.int .u32 1)] 2 rfl Tryz.underlying36 el114_63 rfl rfl rfl rfl rfl rfl (by intro v hv; simp only [List.mem_cons, List.not_mem_nil, or_false] at hv; subst hv; rfl) (RowsH.ofF (Rows.consF (r := (Rep.int .u32)) (x := 1) (cs := [(.int .u32 1)]) (rd_int .u32 1) Rows.nil0)) ?_
 intro a_6 w_7 col_8 hg_9 h_10
 refine lA (.slice a_6 ([1].length) 1) ?_
 refine lN (wS (wB ?_))
 replace hst := (hst.grow hg_4).grow hg_9
 replace hb_5 := hb_5.gr hg_9
 refine wloop (fun n f w_12 => ∃ (col_13 : Col) (k_14 : Int) (a_16 : Option Addr) (cap_17 : Nat) (p_15 : List Int) (n_11 : Nat), n_11 = n ∧ m_code_power_L1 N n_11 k_14 p_15 = some r ∧ St w0 (col0 col) col_13 w_12 ∧ Box 40 1 col_13 w_12 g_1 #[(.bool false), (.slice none (([] : List Int).length) 0), (.slice none (([] : List Int).length) 0)] ∧ Own (Rep.int .u32) 114 2 col_13 w_12 a_16 cap_17 p_15 ∧ f 0 = (.int .i64 k_14) ∧ f 2 = (.pointer (some ⟨g_1, 0, none⟩)) ∧ f 3 = (.slice a_16 p_15.length cap_17) ∧ f 1000000 = (enc [])) N ⟨col_8, p0_k, a_6, 1, [1], N, rfl, hm, hst, hb_5, h_10, rfl, rfl, rfl, rfl⟩ ?_
 clear hm; intro n f w_12 hI
 obtain ⟨col_13, k_14, a_16, cap_17, p_15, n_11, hn, hm, hst, hb_5, h_18, hs0, hs2, hs3, hs1000000⟩ := hI
 subst hn
 refine .lD 0 hs0 ?_
 refine .lD 2 hs2 ?_
 refine .lD 3 hs3 ?_
 refine .lD 1000000 hs1000000 ?_
 clear hs0 hs2 hs3 hs1000000
 cases n_11 with
 | zero => rw [m_code_power_L1.eq_1] at hm; cases hm
 | succ n_11 =>
  rw [m_code_power_L1.eq_2] at hm
  refine wS (wS (wR ?_))
  refine lM (.int .i64 k_14) ?_
  refine lV (.bool (decide (0 < k_14))) (r_gtr k_14 0 rfl rfl) ?_
  refine lN ?_
  refine wcond (decide (0 < k_14)) rfl (fun hb => ?_) (fun hb => ?_)
  ·rw [if_pos hb] at hm
   clear hb
   refine wK (wB (wS (wR ?_)))
   refine lM (.int .i64 k_14) ?_
   refine lV (.int .i64 (if 262144 < k_14 then 262144 else k_14)) (r_min k_14 262144 rfl rfl) ?_
   refine lA (.int .i64 (if 262144 < k_14 then 262144 else k_14)) ?_
   refine lN (wS (wR ?_))
   refine lM (.slice a_16 p_15.length cap_17) ?_
   refine lM (.int .i64 (if 262144 < k_14 then 262144 else k_14)) ?_
   obtain ⟨r_19, hr_20, hm⟩ := bS hm
   refine lc rfl rfl (r_call2 Tryz.call111 rfl rfl) (c_nat_Shift N 3 (frC 2 col_13) _ a_16 cap_17 p_15 (if 262144 < k_14 then 262144 else k_14) (h_18.toSlF (Froz.int .u32)) r_19 hr_20) ?_
   rintro _ w_24 ⟨col_26, ra_21, rc_22, rfl, hg_25, rh_23⟩
   refine ⟨_, rfl, ?_⟩
   replace rh_23 := rh_23.thaw (flat_int .u32) hg_25 ((Fz.refl (col := col_13)).froz 2) (by decide)
   replace hg_25 := hg_25.thawR (col := col_13)
   generalize colR w_12.heap.size col_13 col_26 = col_27 at *
   refine lM (.tuple #[(.slice ra_21 r_19.1.length rc_22), (.int .i64 r_19.2)]) ?_
   refine lV (.slice ra_21 r_19.1.length rc_22) (r_extract rfl rfl) ?_
   refine lV (.int .i64 r_19.2) (r_extract rfl rfl) ?_
   refine lA (.slice ra_21 r_19.1.length rc_22) ?_
   refine lN (wR ?_)
   refine lM (.int .i64 k_14) ?_
   refine lM (.int .i64 (if 262144 < k_14 then 262144 else k_14)) ?_
   refine lV (.int .i64 (IntKind.i64.wrap (k_14 - (if 262144 < k_14 then 262144 else k_14)))) (r_sub k_14 (if 262144 < k_14 then 262144 else k_14) rfl rfl) ?_
   refine lA (.int .i64 (IntKind.i64.wrap (k_14 - (if 262144 < k_14 then 262144 else k_14)))) ?_
   refine lN ?_
   replace rh_23 := rh_23.recolSelf 2 (by decide)
   replace hb_5 := hb_5.gr hg_25
   replace hb_5 := hb_5.recol 3 2 (by decide)
   replace hst := hst.grow hg_25
   replace hst := hst.recol 3 2 (by decide) (by decide)
   exact ⟨n_11, by omega, ⟨(rcC 3 2 col_27), (IntKind.i64.wrap (k_14 - (if 262144 < k_14 then 262144 else k_14))), ra_21, rc_22, r_19.1, n_11, rfl, hm, hst, hb_5, rh_23, rfl, rfl, rfl, rfl⟩⟩
  rw [if_neg (by rw [hb]; decide)] at hm
  clear hb
  refine wexit (inB_hit ?_)
  refine wS (wR ?_)
  refine lM (.slice a_16 p_15.length cap_17) ?_
  refine lV (.agg #[(.bool false), (.slice a_16 p_15.length cap_17)]) (r_build (l := [_, _]) (qs := [(0, 1), (1, 1)]) Tryz.underlying38 Tryz.zeroValue38 ⟨rfl, Tryz.sizeOf4, rfl, Tryz.sizeOf36, trivial⟩ rfl) ?_
  refine l_lit (col := col_13) (r := (Rep.int .u32)) (xs := [1]) [(.int .u32 1)] 4 rfl Tryz.underlying36 el114_63 rfl rfl rfl rfl rfl rfl (by intro v hv; simp only [List.mem_cons, List.not_mem_nil, or_false] at hv; subst hv; rfl) (RowsH.ofF (Rows.consF (r := (Rep.int .u32)) (x := 1) (cs := [(.int .u32 1)]) (rd_int .u32 1) Rows.nil0)) ?_
  intro a_28 w_29 col_30 hg_31 h_32
  refine lV (.agg #[(.bool false), (.slice a_16 p_15.length cap_17), (.slice a_28 ([1].length) 1)]) (r_build (l := [_, _]) (qs := [(0, 2), (2, 1)]) Tryz.underlying40 Tryz.zeroValue40 ⟨rfl, Tryz.sizeOf38, rfl, Tryz.sizeOf36, trivial⟩ rfl) ?_
  replace hb_5 := hb_5.gr hg_31
  refine l_bstore (v := (.agg #[(.bool false), (.slice a_16 p_15.length cap_17), (.slice a_28 ([1].length) 1)])) hb_5 Tryz.sizeOf40 rfl rfl (by intro u hu; simp only [Value.cells, List.mem_cons, List.not_mem_nil, or_false] at hu; rcases hu with rfl | rfl | rfl <;> rfl) rfl rfl ?_
  intro w_33 hk_34 hs_35 hb_36
  clear hb_5
  replace hb_36 : Box 40 1 col_30 w_33 g_1 #[(.bool false), (.slice a_16 p_15.length cap_17), (.slice a_28 ([1].length) 1)] := hb_36
  refine lN ?_
  refine wret ?_
  cases hm
  replace h_18 := (h_18.gr hg_31).kp hk_34
  replace hst := (hst.grow hg_31).kp hk_34 hs_35
  replace h_32 := h_32.kp hk_34
  exact ⟨rfl, _, res_a rfl rfl Tryz.isAgg40 Tryz.sizeOf40 rfl rfl hb_36.atN, colF w0.heap.size col col_30 (fun n => bif Nat.beq n 2 then c1 else bif Nat.beq n 4 then c2 else 0), a_16, cap_17, a_28, 1, rfl, hst.fin (fun n => bif Nat.beq n 2 then c1 else bif Nat.beq n 4 then c2 else 0), hst.finOwn (g := (fun n => bif Nat.beq n 2 then c1 else bif Nat.beq n 4 then c2 else 0)) rfl h_18 (by decide) (by decide) rfl, hst.finOwn (g := (fun n => bif Nat.beq n 2 then c1 else bif Nat.beq n 4 then c2 else 0)) rfl h_32 (by decide) (by decide) rfl⟩
def m_frac_Neg (N : Nat) (p0_a : ((Bool × (List Int)) × (List Int))) : Option ((Bool × (List Int)) × (List Int)) :=
  (m_frac_under N ((p0_a.1.1, p0_a.1.2), p0_a.2)).bind fun r_12 => (m_frac_lowest N (!p0_a.1.1) p0_a.1.2 r_12).bind fun r_21 => some ((r_21.1.1, r_21.1.2), r_21.2)
theorem c_frac_Neg (N : Nat) (c1 : Nat) (c2 : Nat) (col : Col) (w0 : World) (a0_0 : Option Addr) (cap0_0 : Nat) (a0_2 : Option Addr) (cap0_2 : Nat) (p0_a : ((Bool × (List Int)) × (List Int))) (h0_0 : Sl (Rep.int .u32) col w0 a0_0 cap0_0 p0_a.1.2) (h0_2 : Sl (Rep.int .u32) col w0 a0_2 cap0_2 p0_a.2) (r : ((Bool × (List Int)) × (List Int))) (hm : m_frac_Neg N p0_a = some r) :
    Calls Tryz.prog 66 #[(.agg #[(.bool p0_a.1.1), (.slice a0_0 p0_a.1.2.length cap0_0), (.slice a0_2 p0_a.2.length cap0_2)])] w0 (fun e w' => ∃ (col' : Col) (ra1 : Option Addr) (rc2 : Nat) (ra4 : Option Addr) (rc5 : Nat), e = .returned ((.agg #[(.bool r.1.1), (.slice ra1 r.1.2.length rc2), (.slice ra4 r.2.length rc5)])) ∧ Grow col w0 col' w' ∧ Own (Rep.int .u32) 114 c1 col' w' ra1 rc2 r.1.2 ∧ Own (Rep.int .u32) 114 c2 col' w' ra4 rc5 r.2) := by
 refine calls_ofR (m := 13) (args := [(.agg #[(.bool p0_a.1.1), (.slice a0_0 p0_a.1.2.length cap0_0), (.slice a0_2 p0_a.2.length cap0_2)])]) Tryz.func66 rfl rfl rfl ?_
 rw [m_frac_Neg.eq_1] at hm
 have hst := St.start col w0
 refine wS (wR ?_)
 refine l_box (col := (col0 col)) (v := (.agg #[(.bool p0_a.1.1), (.slice a0_0 p0_a.1.2.length cap0_0), (.slice a0_2 p0_a.2.length cap0_2)])) 1 rfl rfl ?_
 intro g_1 w_2 col_3 hg_4 hb_5
 replace hb_5 : Box 40 1 col_3 w_2 g_1 #[(.bool p0_a.1.1), (.slice a0_0 p0_a.1.2.length cap0_0), (.slice a0_2 p0_a.2.length cap0_2)] := hb_5
 refine l_alloc (col := col_3) (v := (.agg #[(.bool false), (.slice none (([] : List Int).length) 0), (.slice none (([] : List Int).length) 0)])) 2 rfl Tryz.zeroValue40 ?_
 intro g_6 w_7 col_8 hg_9 hb_10
 replace hb_10 : Box 40 2 col_8 w_7 g_6 #[(.bool false), (.slice none (([] : List Int).length) 0), (.slice none (([] : List Int).length) 0)] := hb_10
 refine lN (wS ?_)
 refine wmix (col := col_8) [(0, 1), (1, 1), (2, 0), (3, 1), (4, 1), (5, 1), (6, 0), (7, 0), (8, 3), (9, 3), (10, 2)] (by kernel_rfl) (by kernel_rfl) ?_
 refine xu (v := (.pointer ((some (⟨g_1, 0, none⟩ : Addr)).map (·.add 0)))) rfl rfl (fun _ => rF (sz := 2) (off := 0) Tryz.underlying40 rfl Tryz.sizeOf38 (by decide) rfl rfl ⟨_, _, rfl⟩) ?_
 refine xu (v := (.pointer (((some (⟨g_1, 0, none⟩ : Addr)).map (·.add 0)).map (·.add 0)))) rfl rfl (fun _ => rF (sz := 1) (off := 0) Tryz.underlying38 rfl Tryz.sizeOf4 (by decide) rfl rfl (sptr_addr ⟨_, _, rfl⟩)) ?_
 replace hb_5 := hb_5.gr hg_9
 refine xv (v := (.bool p0_a.1.1)) rfl rfl (fun _ hC => r_ld Tryz.isAgg4 rfl (((((hb_5.atN).part 0 2 _ rfl)).nth (q := 0) (v := (.bool p0_a.1.1)) rfl).gr (Grow.of_below (col := col_8) hC.below))) ?_
 refine xu (v := (.bool (!p0_a.1.1))) rfl rfl (fun _ => r_not p0_a.1.1 rfl) ?_
 refine xu (v := (.pointer ((some (⟨g_1, 0, none⟩ : Addr)).map (·.add 0)))) rfl rfl (fun _ => rF (sz := 2) (off := 0) Tryz.underlying40 rfl Tryz.sizeOf38 (by decide) rfl rfl ⟨_, _, rfl⟩) ?_
 refine xu (v := (.pointer (((some (⟨g_1, 0, none⟩ : Addr)).map (·.add 0)).map (·.add 1)))) rfl rfl (fun _ => rF (sz := 1) (off := 1) Tryz.underlying38 rfl Tryz.sizeOf36 (by decide) rfl rfl (sptr_addr ⟨_, _, rfl⟩)) ?_
 refine xv (v := (.slice a0_0 p0_a.1.2.length cap0_0)) rfl rfl (fun _ hC => r_ld Tryz.isAgg36 rfl (((((hb_5.atN).part 0 2 _ rfl)).nth (q := 1) (v := (.slice a0_0 p0_a.1.2.length cap0_0)) rfl).gr (Grow.of_below (col := col_8) hC.below))) ?_
 refine xv (v := (.agg #[(.bool p0_a.1.1), (.slice a0_0 p0_a.1.2.length cap0_0), (.slice a0_2 p0_a.2.length cap0_2)])) rfl rfl (fun _ hC => r_ldN Tryz.isAgg40 Tryz.sizeOf40 rfl rfl (hb_5.atN.gr (Grow.of_below (col := col_8) hC.below))) ?_
 refine xe rfl rfl ?_
 intro w_11 hC0
 have hC : Grow col_8 w_7 col_8 w_11 := .of_below hC0.below
 obtain ⟨r_12, hr_13, hm⟩ := bS hm
 replace h0_0 := (((h0_0.keep (Stay.start col w0)).gr hg_4).gr hg_9).gr hC
 replace h0_2 := (((h0_2.keep (Stay.start col w0)).gr hg_4).gr hg_9).gr hC
 refine lc rfl rfl (r_call1 Tryz.call56 rfl) (c_frac_under N 3 col_8 _ a0_0 cap0_0 a0_2 cap0_2 ((p0_a.1.1, p0_a.1.2), p0_a.2) h0_0 h0_2 r_12 hr_13) ?_
 rintro _ w_17 ⟨col_19, ra_14, rc_15, rfl, hg_18, rh_16⟩
 refine ⟨_, rfl, ?_⟩
 refine lN ⟨fun w' => Grow col_19 w_17 col_19 w', Grow.refl _ _, fun _ _ h => cls hC0 hg_18 h, ?_⟩
 refine xe rfl rfl ?_
 intro w_20 hC0
 replace hst := (((hst.grow hg_4).grow hg_9).grow hC).grow hg_18
 replace hb_10 := (hb_10.gr hC).gr hg_18
 have hC : Grow col_19 w_17 col_19 w_20 := .of_below hC0.below
 obtain ⟨r_21, hr_22, hm⟩ := bS hm
 replace h0_0 := (h0_0.gr hg_18).gr hC
 replace rh_16 := rh_16.gr hC
 refine lc rfl rfl (r_call3 Tryz.call55 rfl rfl rfl) (c_frac_lowest N 4 5 (frC 3 col_19) _ (!p0_a.1.1) a0_0 cap0_0 p0_a.1.2 ra_14 rc_15 r_12 (h0_0.froz 3) (rh_16.toSlF (Froz.int .u32)) r_21 hr_22) ?_
 rintro _ w_29 ⟨col_31, ra_23, rc_24, ra_26, rc_27, rfl, hg_30, rh_25, rh_28⟩
 refine ⟨_, rfl, ?_⟩
 replace rh_25 := rh_25.thaw (flat_int .u32) hg_30 ((Fz.refl (col := col_19)).froz 3) (by decide)
 replace rh_28 := rh_28.thaw (flat_int .u32) hg_30 ((Fz.refl (col := col_19)).froz 3) (by decide)
 replace hg_30 := hg_30.thawR (col := col_19)
 generalize colR w_20.heap.size col_19 col_31 = col_32 at *
 refine lN ⟨fun w' => Grow col_32 w_29 col_32 w', Grow.refl _ _, fun _ _ h => cls hC0 hg_30 h, ?_⟩
 refine xe rfl rfl ?_
 intro w_33 hC0
 replace hb_10 := (hb_10.gr hC).gr hg_30
 replace hst := (hst.grow hC).grow hg_30
 have hC : Grow col_32 w_29 col_32 w_33 := .of_below hC0.below
 replace hb_10 := hb_10.gr hC
 refine l_bstore (v := (.agg #[(.bool r_21.1.1), (.slice ra_23 r_21.1.2.length rc_24), (.slice ra_26 r_21.2.length rc_27)])) hb_10 Tryz.sizeOf40 rfl rfl (by intro u hu; simp only [Value.cells, List.mem_cons, List.not_mem_nil, or_false] at hu; rcases hu with rfl | rfl | rfl <;> rfl) rfl rfl ?_
 intro w_34 hk_35 hs_36 hb_37
 clear hb_10
 replace hb_37 : Box 40 2 col_32 w_34 g_6 #[(.bool r_21.1.1), (.slice ra_23 r_21.1.2.length rc_24), (.slice ra_26 r_21.2.length rc_27)] := hb_37
 refine lN ⟨fun w' => Grow col_32 w_34 col_32 w', Grow.refl _ _, fun h => absurd h (by decide), ?_⟩
 refine xnil ?_
 replace rh_25 := (rh_25.gr hC).kp hk_35
 replace rh_28 := (rh_28.gr hC).kp hk_35
 replace hst := (hst.grow hC).kp hk_35 hs_36
 intro w_38 hC
 replace hC : Grow col_32 w_34 col_32 w_38 := .of_below hC.below
 refine wret ?_
 cases hm
 replace rh_25 := rh_25.gr hC
 replace rh_28 := rh_28.gr hC
 replace hb_37 := hb_37.gr hC
 replace hst := hst.grow hC
 exact ⟨rfl, _, res_a rfl rfl Tryz.isAgg40 Tryz.sizeOf40 rfl rfl hb_37.atN, colF w0.heap.size col col_32 (fun n => bif Nat.beq n 4 then c1 else bif Nat.beq n 5 then c2 else 0), ra_23, rc_24, ra_26, rc_27, rfl, hst.fin (fun n => bif Nat.beq n 4 then c1 else bif Nat.beq n 5 then c2 else 0), hst.finOwn (g := (fun n => bif Nat.beq n 4 then c1 else bif Nat.beq n 5 then c2 else 0)) rfl rh_25 (by decide) (by decide) rfl, hst.finOwn (g := (fun n => bif Nat.beq n 4 then c1 else bif Nat.beq n 5 then c2 else 0)) rfl rh_28 (by decide) (by decide) rfl⟩
def m_whole_Quo (N : Nat) (p0_a : (Bool × (List Int))) (p1_b : (Bool × (List Int))) : Option ((Bool × (List Int)) × (Bool × (List Int)) × Int) :=
  (m_nat_DivMod N p0_a.2 p1_b.2).bind fun r_21 => if (!decide (r_21.2.2 = 0)) = true then none else ((m_whole_of N (!decide (p0_a.1 = p1_b.1)) r_21.1).bind fun r_33 => (m_whole_of N p0_a.1 r_21.2.1).bind fun r_43 => some ((r_33.1, r_33.2), (r_43.1, r_43.2), 0))
theorem c_whole_Quo (N : Nat) (c1 : Nat) (c2 : Nat) (col : Col) (w0 : World) (a0_0 : Option Addr) (cap0_0 : Nat) (p0_a : (Bool × (List Int))) (a1_0 : Option Addr) (cap1_0 : Nat) (p1_b : (Bool × (List Int))) (h0_0 : Sl (Rep.int .u32) col w0 a0_0 cap0_0 p0_a.2) (h1_0 : Sl (Rep.int .u32) col w0 a1_0 cap1_0 p1_b.2) (r : ((Bool × (List Int)) × (Bool × (List Int)) × Int)) (hm : m_whole_Quo N p0_a p1_b = some r) :
    Calls Tryz.prog 146 #[(.agg #[(.bool p0_a.1), (.slice a0_0 p0_a.2.length cap0_0)]), (.agg #[(.bool p1_b.1), (.slice a1_0 p1_b.2.length cap1_0)])] w0 (fun e w' => ∃ (col' : Col) (ra1 : Option Addr) (rc2 : Nat) (ra4 : Option Addr) (rc5 : Nat), e = .returned (.tuple #[(.agg #[(.bool r.1.1), (.slice ra1 r.1.2.length rc2)]), (.agg #[(.bool r.2.1.1), (.slice ra4 r.2.1.2.length rc5)]), (.int .i64 r.2.2)]) ∧ Grow col w0 col' w' ∧ Own (Rep.int .u32) 114 c1 col' w' ra1 rc2 r.1.2 ∧ Own (Rep.int .u32) 114 c2 col' w' ra4 rc5 r.2.1.2) := by
 refine calls_ofR (m := 35) (args := [(.agg #[(.bool p0_a.1), (.slice a0_0 p0_a.2.length cap0_0)]), (.agg #[(.bool p1_b.1), (.slice a1_0 p1_b.2.length cap1_0)])]) Tryz.func146 rfl rfl rfl ?_
 rw [m_whole_Quo.eq_1] at hm
 have hst := St.start col w0
 refine wS (wR ?_)
 refine l_box (col := (col0 col)) (v := (.agg #[(.bool p0_a.1), (.slice a0_0 p0_a.2.length cap0_0)])) 1 rfl rfl ?_
 intro g_1 w_2 col_3 hg_4 hb_5
 replace hb_5 : Box 38 1 col_3 w_2 g_1 #[(.bool p0_a.1), (.slice a0_0 p0_a.2.length cap0_0)] := hb_5
 refine l_box (col := col_3) (v := (.agg #[(.bool p1_b.1), (.slice a1_0 p1_b.2.length cap1_0)])) 2 rfl rfl ?_
 intro g_6 w_7 col_8 hg_9 hb_10
 replace hb_10 : Box 38 2 col_8 w_7 g_6 #[(.bool p1_b.1), (.slice a1_0 p1_b.2.length cap1_0)] := hb_10
 refine l_alloc (col := col_8) (v := (.agg #[(.bool false), (.slice none (([] : List Int).length) 0)])) 3 rfl Tryz.zeroValue38 ?_
 intro g_11 w_12 col_13 hg_14 hb_15
 replace hb_15 : Box 38 3 col_13 w_12 g_11 #[(.bool false), (.slice none (([] : List Int).length) 0)] := hb_15
 refine l_alloc (col := col_13) (v := (.agg #[(.bool false), (.slice none (([] : List Int).length) 0)])) 4 rfl Tryz.zeroValue38 ?_
 intro g_16 w_17 col_18 hg_19 hb_20
 replace hb_20 : Box 38 4 col_18 w_17 g_16 #[(.bool false), (.slice none (([] : List Int).length) 0)] := hb_20
 refine lA (.int .i64 0) ?_
 refine lN (wS (wR ?_))
 refine lV (.pointer ((some (⟨g_1, 0, none⟩ : Addr)).map (·.add 1))) (rF (sz := 1) (off := 1) Tryz.underlying38 rfl Tryz.sizeOf36 (by decide) rfl rfl ⟨_, _, rfl⟩) ?_
 replace hb_5 := ((hb_5.gr hg_9).gr hg_14).gr hg_19
 refine lV (.slice a0_0 p0_a.2.length cap0_0) (r_ld Tryz.isAgg36 rfl ((hb_5.atN).nth (q := 1) (v := (.slice a0_0 p0_a.2.length cap0_0)) rfl)) ?_
 refine lV (.pointer ((some (⟨g_6, 0, none⟩ : Addr)).map (·.add 1))) (rF (sz := 1) (off := 1) Tryz.underlying38 rfl Tryz.sizeOf36 (by decide) rfl rfl ⟨_, _, rfl⟩) ?_
 replace hb_10 := (hb_10.gr hg_14).gr hg_19
 refine lV (.slice a1_0 p1_b.2.length cap1_0) (r_ld Tryz.isAgg36 rfl ((hb_10.atN).nth (q := 1) (v := (.slice a1_0 p1_b.2.length cap1_0)) rfl)) ?_
 obtain ⟨r_21, hr_22, hm⟩ := bS hm
 replace h0_0 := ((((h0_0.keep (Stay.start col w0)).gr hg_4).gr hg_9).gr hg_14).gr hg_19
 replace h1_0 := ((((h1_0.keep (Stay.start col w0)).gr hg_4).gr hg_9).gr hg_14).gr hg_19
 refine lc rfl rfl (r_call2 Tryz.call104 rfl rfl) (c_nat_DivMod N 5 6 col_18 _ a0_0 cap0_0 p0_a.2 a1_0 cap1_0 p1_b.2 h0_0 h1_0 r_21 hr_22) ?_
 rintro _ w_29 ⟨col_31, ra_23, rc_24, ra_26, rc_27, rfl, hg_30, rh_25, rh_28⟩
 refine ⟨_, rfl, ?_⟩
 refine lM (.tuple #[(.slice ra_23 r_21.1.length rc_24), (.slice ra_26 r_21.2.1.length rc_27), (.int .i64 r_21.2.2)]) ?_
 refine lV (.slice ra_23 r_21.1.length rc_24) (r_extract rfl rfl) ?_
 refine lV (.slice ra_26 r_21.2.1.length rc_27) (r_extract rfl rfl) ?_
 refine lV (.int .i64 r_21.2.2) (r_extract rfl rfl) ?_
 refine lA (.slice ra_23 r_21.1.length rc_24) ?_
 refine lA (.slice ra_26 r_21.2.1.length rc_27) ?_
 refine lA (.int .i64 r_21.2.2) ?_
 refine lN (wS (wS (wR ?_)))
 refine lM (.int .i64 r_21.2.2) ?_
 refine lV (.bool (!decide (r_21.2.2 = 0))) (r_neq r_21.2.2 0 rfl rfl) ?_
 refine lN ?_
 replace hst := ((((hst.grow hg_4).grow hg_9).grow hg_14).grow hg_19).grow hg_30
 replace hb_15 := (hb_15.gr hg_19).gr hg_30
 replace hb_5 := hb_5.gr hg_30
 replace hb_10 := hb_10.gr hg_30
 replace hb_20 := hb_20.gr hg_30
 refine wcond (!decide (r_21.2.2 = 0)) rfl (fun hb => ?_) (fun hb => ?_)
 ·rw [if_pos hb] at hm
  clear hb
  cases hm
 rw [if_neg (by rw [hb]; decide)] at hm
 clear hb
 refine wK (wS ?_)
 refine wmix (col := col_31) [(0, 1), (1, 0), (2, 1), (3, 0), (4, 1), (5, 1), (7, 1), (8, 0), (9, 1), (6, 3), (10, 3), (11, 2), (12, 2), (13, 1)] (by kernel_rfl) (by kernel_rfl) ?_
 refine xu (v := (.pointer ((some (⟨g_1, 0, none⟩ : Addr)).map (·.add 0)))) rfl rfl (fun _ => rF (sz := 1) (off := 0) Tryz.underlying38 rfl Tryz.sizeOf4 (by decide) rfl rfl ⟨_, _, rfl⟩) ?_
 refine xv (v := (.bool p0_a.1)) rfl rfl (fun _ hC => r_ld Tryz.isAgg4 rfl (((hb_5.atN).nth (q := 0) (v := (.bool p0_a.1)) rfl).gr (Grow.of_below (col := col_31) hC.below))) ?_
 refine xu (v := (.pointer ((some (⟨g_6, 0, none⟩ : Addr)).map (·.add 0)))) rfl rfl (fun _ => rF (sz := 1) (off := 0) Tryz.underlying38 rfl Tryz.sizeOf4 (by decide) rfl rfl ⟨_, _, rfl⟩) ?_
 refine xv (v := (.bool p1_b.1)) rfl rfl (fun _ hC => r_ld Tryz.isAgg4 rfl (((hb_10.atN).nth (q := 0) (v := (.bool p1_b.1)) rfl).gr (Grow.of_below (col := col_31) hC.below))) ?_
 refine xu (v := (.bool (!decide (p0_a.1 = p1_b.1)))) rfl rfl (fun _ => r_neqB p0_a.1 p1_b.1 Tryz.underlying4 rfl rfl) ?_
 refine xu (v := (.slice ra_23 r_21.1.length rc_24)) rfl rfl (fun _ => r_move rfl) ?_
 refine xu (v := (.pointer ((some (⟨g_1, 0, none⟩ : Addr)).map (·.add 0)))) rfl rfl (fun _ => rF (sz := 1) (off := 0) Tryz.underlying38 rfl Tryz.sizeOf4 (by decide) rfl rfl ⟨_, _, rfl⟩) ?_
 refine xv (v := (.bool p0_a.1)) rfl rfl (fun _ hC => r_ld Tryz.isAgg4 rfl (((hb_5.atN).nth (q := 0) (v := (.bool p0_a.1)) rfl).gr (Grow.of_below (col := col_31) hC.below))) ?_
 refine xu (v := (.slice ra_26 r_21.2.1.length rc_27)) rfl rfl (fun _ => r_move rfl) ?_
 refine xe rfl rfl ?_
 intro w_32 hC0
 have hC : Grow col_31 w_29 col_31 w_32 := .of_below hC0.below
 obtain ⟨r_33, hr_34, hm⟩ := bS hm
 replace rh_25 := rh_25.gr hC
 refine lc rfl rfl (r_call2 Tryz.call112 rfl rfl) (c_whole_of N 7 (frC 5 col_31) _ (!decide (p0_a.1 = p1_b.1)) ra_23 rc_24 r_21.1 (rh_25.toSlF (Froz.int .u32)) r_33 hr_34) ?_
 rintro _ w_38 ⟨col_40, ra_35, rc_36, rfl, hg_39, rh_37⟩
 refine ⟨_, rfl, ?_⟩
 replace rh_37 := rh_37.thaw (flat_int .u32) hg_39 ((Fz.refl (col := col_31)).froz 5) (by decide)
 replace hg_39 := hg_39.thawR (col := col_31)
 generalize colR w_32.heap.size col_31 col_40 = col_41 at *
 refine lN ⟨fun w' => Grow col_41 w_38 col_41 w', Grow.refl _ _, fun _ _ h => cls hC0 hg_39 h, ?_⟩
 refine xe rfl rfl ?_
 intro w_42 hC0
 replace rh_28 := (rh_28.gr hC).gr hg_39
 replace hb_15 := (hb_15.gr hC).gr hg_39
 replace hb_20 := (hb_20.gr hC).gr hg_39
 replace hst := (hst.grow hC).grow hg_39
 have hC : Grow col_41 w_38 col_41 w_42 := .of_below hC0.below
 obtain ⟨r_43, hr_44, hm⟩ := bS hm
 replace rh_28 := rh_28.gr hC
 refine lc rfl rfl (r_call2 Tryz.call112 rfl rfl) (c_whole_of N 8 (frC 6 col_41) _ p0_a.1 ra_26 rc_27 r_21.2.1 (rh_28.toSlF (Froz.int .u32)) r_43 hr_44) ?_
 rintro _ w_48 ⟨col_50, ra_45, rc_46, rfl, hg_49, rh_47⟩
 refine ⟨_, rfl, ?_⟩
 replace rh_47 := rh_47.thaw (flat_int .u32) hg_49 ((Fz.refl (col := col_41)).froz 6) (by decide)
 replace hg_49 := hg_49.thawR (col := col_41)
 generalize colR w_42.heap.size col_41 col_50 = col_51 at *
 refine lN ⟨fun w' => Grow col_51 w_48 col_51 w', Grow.refl _ _, fun _ _ h => cls hC0 hg_49 h, ?_⟩
 refine xe rfl rfl ?_
 intro w_52 hC0
 replace rh_37 := (rh_37.gr hC).gr hg_49
 replace hb_15 := (hb_15.gr hC).gr hg_49
 replace hb_20 := (hb_20.gr hC).gr hg_49
 replace hst := (hst.grow hC).grow hg_49
 have hC : Grow col_51 w_48 col_51 w_52 := .of_below hC0.below
 replace hb_15 := hb_15.gr hC
 refine l_bstore (v := (.agg #[(.bool r_33.1), (.slice ra_35 r_33.2.length rc_36)])) hb_15 Tryz.sizeOf38 rfl rfl (by intro u hu; simp only [Value.cells, List.mem_cons, List.not_mem_nil, or_false] at hu; rcases hu with rfl | rfl <;> rfl) rfl rfl ?_
 intro w_53 hk_54 hs_55 hb_56
 clear hb_15
 replace hb_56 : Box 38 3 col_51 w_53 g_11 #[(.bool r_33.1), (.slice ra_35 r_33.2.length rc_36)] := hb_56
 refine lN ⟨fun w' => Grow col_51 w_53 col_51 w', Grow.refl _ _, fun h => absurd h (by decide), ?_⟩
 refine xe rfl rfl ?_
 intro w_57 hC0
 replace rh_37 := (rh_37.gr hC).kp hk_54
 replace rh_47 := (rh_47.gr hC).kp hk_54
 replace hb_20 := (hb_20.gr hC).kp hk_54
 replace hst := (hst.grow hC).kp hk_54 hs_55
 have hC : Grow col_51 w_53 col_51 w_57 := .of_below hC0.below
 replace hb_20 := hb_20.gr hC
 refine l_bstore (v := (.agg #[(.bool r_43.1), (.slice ra_45 r_43.2.length rc_46)])) hb_20 Tryz.sizeOf38 rfl rfl (by intro u hu; simp only [Value.cells, List.mem_cons, List.not_mem_nil, or_false] at hu; rcases hu with rfl | rfl <;> rfl) rfl rfl ?_
 intro w_58 hk_59 hs_60 hb_61
 clear hb_20
 replace hb_61 : Box 38 4 col_51 w_58 g_16 #[(.bool r_43.1), (.slice ra_45 r_43.2.length rc_46)] := hb_61
 refine lN ⟨fun w' => Grow col_51 w_58 col_51 w', Grow.refl _ _, fun h => absurd h (by decide), ?_⟩
 refine xu (v := (.int .i64 0)) rfl rfl (fun _ => r_assign rfl) ?_
 refine xnil ?_
 replace rh_37 := (rh_37.gr hC).kp hk_59
 replace rh_47 := (rh_47.gr hC).kp hk_59
 replace hb_56 := (hb_56.gr hC).kp hk_59
 replace hst := (hst.grow hC).kp hk_59 hs_60
 intro w_62 hC
 replace hC : Grow col_51 w_58 col_51 w_62 := .of_below hC.below
 refine wret ?_
 cases hm
 replace rh_37 := rh_37.gr hC
 replace rh_47 := rh_47.gr hC
 replace hb_56 := hb_56.gr hC
 replace hb_61 := hb_61.gr hC
 replace hst := hst.grow hC
 exact ⟨rfl, _, res_aat rfl rfl Tryz.isAgg38 Tryz.sizeOf38 rfl rfl hb_56.atN rfl Tryz.isAgg38 Tryz.sizeOf38 rfl rfl hb_61.atN rfl rfl, colF w0.heap.size col col_51 (fun n => bif Nat.beq n 7 then c1 else bif Nat.beq n 8 then c2 else 0), ra_35, rc_36, ra_45, rc_46, rfl, hst.fin (fun n => bif Nat.beq n 7 then c1 else bif Nat.beq n 8 then c2 else 0), hst.finOwn (g := (fun n => bif Nat.beq n 7 then c1 else bif Nat.beq n 8 then c2 else 0)) rfl rh_37 (by decide) (by decide) rfl, hst.finOwn (g := (fun n => bif Nat.beq n 7 then c1 else bif Nat.beq n 8 then c2 else 0)) rfl rh_47 (by decide) (by decide) rfl⟩
def m_whole_Floor_J1 (N : Nat) (p1_b : (Bool × (List Int))) (r_21 : ((Bool × (List Int)) × (Bool × (List Int)) × Int)) (v_66 : Bool) : Option ((Bool × (List Int)) × (Bool × (List Int)) × Int) :=
  if v_66 = true then none else ((m_whole_Of N 1).bind fun r_68 => (m_whole_Sub N (r_21.1.1, r_21.1.2) (r_68.1, r_68.2)).bind fun r_77 => (m_whole_Add N (r_21.2.1.1, r_21.2.1.2) (p1_b.1, p1_b.2)).bind fun r_87 => some ((r_77.1, r_77.2), (r_87.1, r_87.2), 0))
def m_whole_Floor (N : Nat) (p0_a : (Bool × (List Int))) (p1_b : (Bool × (List Int))) : Option ((Bool × (List Int)) × (Bool × (List Int)) × Int) :=
  (m_whole_Quo N (p0_a.1, p0_a.2) (p1_b.1, p1_b.2)).bind fun r_21 => if (!decide (r_21.2.2 = 0)) = true then (m_whole_Floor_J1 N p1_b r_21 true) else ((m_whole_Sign N (r_21.2.1.1, r_21.2.1.2)).bind fun r_109 => (m_whole_Sign N (p1_b.1, p1_b.2)).bind fun r_111 => m_whole_Floor_J1 N p1_b r_21 (decide (0 ≤ (IntKind.i64.wrap (r_109 * r_111)))))
theorem c_whole_Floor (N : Nat) (c1 : Nat) (c2 : Nat) (col : Col) (w0 : World) (a0_0 : Option Addr) (cap0_0 : Nat) (p0_a : (Bool × (List Int))) (a1_0 : Option Addr) (cap1_0 : Nat) (p1_b : (Bool × (List Int))) (h0_0 : Sl (Rep.int .u32) col w0 a0_0 cap0_0 p0_a.2) (h1_0 : Sl (Rep.int .u32) col w0 a1_0 cap1_0 p1_b.2) (r : ((Bool × (List Int)) × (Bool × (List Int)) × Int)) (hm : m_whole_Floor N p0_a p1_b = some r) :
    Calls Tryz.prog 113 #[(.agg #[(.bool p0_a.1), (.slice a0_0 p0_a.2.length cap0_0)]), (.agg #[(.bool p1_b.1), (.slice a1_0 p1_b.2.length cap1_0)])] w0 (fun e w' => ∃ (col' : Col) (ra1 : Option Addr) (rc2 : Nat) (ra4 : Option Addr) (rc5 : Nat), e = .returned (.tuple #[(.agg #[(.bool r.1.1), (.slice ra1 r.1.2.length rc2)]), (.agg #[(.bool r.2.1.1), (.slice ra4 r.2.1.2.length rc5)]), (.int .i64 r.2.2)]) ∧ Grow col w0 col' w' ∧ Own (Rep.int .u32) 114 c1 col' w' ra1 rc2 r.1.2 ∧ Own (Rep.int .u32) 114 c2 col' w' ra4 rc5 r.2.1.2) := by
 refine calls_ofR (m := 36) (args := [(.agg #[(.bool p0_a.1), (.slice a0_0 p0_a.2.length cap0_0)]), (.agg #[(.bool p1_b.1), (.slice a1_0 p1_b.2.length cap1_0)])]) Tryz.func113 rfl rfl rfl ?_
 rw [m_whole_Floor.eq_1] at hm
 have hst := St.start col w0
 refine wS (wR ?_)
 refine l_box (col := (col0 col)) (v := (.agg #[(.bool p0_a.1), (.slice a0_0 p0_a.2.length cap0_0)])) 1 rfl rfl ?_
 intro g_1 w_2 col_3 hg_4 hb_5
 replace hb_5 : Box 38 1 col_3 w_2 g_1 #[(.bool p0_a.1), (.slice a0_0 p0_a.2.length cap0_0)] := hb_5
 refine l_box (col := col_3) (v := (.agg #[(.bool p1_b.1), (.slice a1_0 p1_b.2.length cap1_0)])) 2 rfl rfl ?_
 intro g_6 w_7 col_8 hg_9 hb_10
 replace hb_10 : Box 38 2 col_8 w_7 g_6 #[(.bool p1_b.1), (.slice a1_0 p1_b.2.length cap1_0)] := hb_10
 refine l_alloc (col := col_8) (v := (.agg #[(.bool false), (.slice none (([] : List Int).length) 0)])) 3 rfl Tryz.zeroValue38 ?_
 intro g_11 w_12 col_13 hg_14 hb_15
 replace hb_15 : Box 38 3 col_13 w_12 g_11 #[(.bool false), (.slice none (([] : List Int).length) 0)] := hb_15
 refine l_alloc (col := col_13) (v := (.agg #[(.bool false), (.slice none (([] : List Int).length) 0)])) 4 rfl Tryz.zeroValue38 ?_
 intro g_16 w_17 col_18 hg_19 hb_20
 replace hb_20 : Box 38 4 col_18 w_17 g_16 #[(.bool false), (.slice none (([] : List Int).length) 0)] := hb_20
 refine lA (.int .i64 0) ?_
 refine lN (wS (wR ?_))
 replace hb_5 := ((hb_5.gr hg_9).gr hg_14).gr hg_19
 refine lV (.agg #[(.bool p0_a.1), (.slice a0_0 p0_a.2.length cap0_0)]) (r_ldN Tryz.isAgg38 Tryz.sizeOf38 rfl rfl hb_5.atN) ?_
 replace hb_10 := (hb_10.gr hg_14).gr hg_19
 refine lV (.agg #[(.bool p1_b.1), (.slice a1_0 p1_b.2.length cap1_0)]) (r_ldN Tryz.isAgg38 Tryz.sizeOf38 rfl rfl hb_10.atN) ?_
 obtain ⟨r_21, hr_22, hm⟩ := bS hm
 replace h0_0 := ((((h0_0.keep (Stay.start col w0)).gr hg_4).gr hg_9).gr hg_14).gr hg_19
 replace h1_0 := ((((h1_0.keep (Stay.start col w0)).gr hg_4).gr hg_9).gr hg_14).gr hg_19
 refine lc rfl rfl (r_call2 Tryz.call146 rfl rfl) (c_whole_Quo N 5 6 col_18 _ a0_0 cap0_0 (p0_a.1, p0_a.2) a1_0 cap1_0 (p1_b.1, p1_b.2) h0_0 h1_0 r_21 hr_22) ?_
 rintro _ w_29 ⟨col_31, ra_23, rc_24, ra_26, rc_27, rfl, hg_30, rh_25, rh_28⟩
 refine ⟨_, rfl, ?_⟩
 refine lM (.tuple #[(.agg #[(.bool r_21.1.1), (.slice ra_23 r_21.1.2.length rc_24)]), (.agg #[(.bool r_21.2.1.1), (.slice ra_26 r_21.2.1.2.length rc_27)]), (.int .i64 r_21.2.2)]) ?_
 refine lV (.agg #[(.bool r_21.1.1), (.slice ra_23 r_21.1.2.length rc_24)]) (r_extract rfl rfl) ?_
 refine lV (.agg #[(.bool r_21.2.1.1), (.slice ra_26 r_21.2.1.2.length rc_27)]) (r_extract rfl rfl) ?_
 refine lV (.int .i64 r_21.2.2) (r_extract rfl rfl) ?_
 refine l_alloc (col := col_31) (v := (.agg #[(.bool false), (.slice none (([] : List Int).length) 0)])) 7 rfl Tryz.zeroValue38 ?_
 intro g_32 w_33 col_34 hg_35 hb_36
 replace hb_36 : Box 38 7 col_34 w_33 g_32 #[(.bool false), (.slice none (([] : List Int).length) 0)] := hb_36
 refine l_alloc (col := col_34) (v := (.agg #[(.bool false), (.slice none (([] : List Int).length) 0)])) 8 rfl Tryz.zeroValue38 ?_
 intro g_37 w_38 col_39 hg_40 hb_41
 replace hb_41 : Box 38 8 col_39 w_38 g_37 #[(.bool false), (.slice none (([] : List Int).length) 0)] := hb_41
 replace hb_36 := hb_36.gr hg_40
 refine l_bstore (v := (.agg #[(.bool r_21.1.1), (.slice ra_23 r_21.1.2.length rc_24)])) hb_36 Tryz.sizeOf38 rfl rfl (by intro u hu; simp only [Value.cells, List.mem_cons, List.not_mem_nil, or_false] at hu; rcases hu with rfl | rfl <;> rfl) rfl rfl ?_
 intro w_42 hk_43 hs_44 hb_45
 clear hb_36
 replace hb_45 : Box 38 7 col_39 w_42 g_32 #[(.bool r_21.1.1), (.slice ra_23 r_21.1.2.length rc_24)] := hb_45
 replace hb_41 := hb_41.kp hk_43
 refine l_bstore (v := (.agg #[(.bool r_21.2.1.1), (.slice ra_26 r_21.2.1.2.length rc_27)])) hb_41 Tryz.sizeOf38 rfl rfl (by intro u hu; simp only [Value.cells, List.mem_cons, List.not_mem_nil, or_false] at hu; rcases hu with rfl | rfl <;> rfl) rfl rfl ?_
 intro w_46 hk_47 hs_48 hb_49
 clear hb_41
 replace hb_49 : Box 38 8 col_39 w_46 g_37 #[(.bool r_21.2.1.1), (.slice ra_26 r_21.2.1.2.length rc_27)] := hb_49
 refine lA (.int .i64 r_21.2.2) ?_
 refine lN (wS (wS ?_))
 replace hst := ((((((((hst.grow hg_4).grow hg_9).grow hg_14).grow hg_19).grow hg_30).grow hg_35).grow hg_40).kp hk_43 hs_44).kp hk_47 hs_48
 replace hb_15 := (((((hb_15.gr hg_19).gr hg_30).gr hg_35).gr hg_40).kp hk_43).kp hk_47
 replace h1_0 := ((((h1_0.gr hg_30).gr hg_35).gr hg_40).kp hk_43).kp hk_47
 replace hb_10 := ((((hb_10.gr hg_30).gr hg_35).gr hg_40).kp hk_43).kp hk_47
 replace hb_20 := ((((hb_20.gr hg_30).gr hg_35).gr hg_40).kp hk_43).kp hk_47
 replace rh_25 := (((rh_25.gr hg_35).gr hg_40).kp hk_43).kp hk_47
 replace rh_28 := (((rh_28.gr hg_35).gr hg_40).kp hk_43).kp hk_47
 replace hb_45 := hb_45.kp hk_47
 refine Wp.cut (fun f w_64 => ∃ (col_65 : Col) (v_66 : Bool), m_whole_Floor_J1 N p1_b r_21 v_66 = some r ∧ St w0 (col0 col) col_65 w_64 ∧ Sl (Rep.int .u32) col_65 w_64 a1_0 cap1_0 p1_b.2 ∧ Box 38 2 col_65 w_64 g_6 #[(.bool p1_b.1), (.slice a1_0 p1_b.2.length cap1_0)] ∧ Box 38 3 col_65 w_64 g_11 #[(.bool false), (.slice none (([] : List Int).length) 0)] ∧ Box 38 4 col_65 w_64 g_16 #[(.bool false), (.slice none (([] : List Int).length) 0)] ∧ Own (Rep.int .u32) 114 5 col_65 w_64 ra_23 rc_24 r_21.1.2 ∧ Box 38 7 col_65 w_64 g_32 #[(.bool r_21.1.1), (.slice ra_23 r_21.1.2.length rc_24)] ∧ Own (Rep.int .u32) 114 6 col_65 w_64 ra_26 rc_27 r_21.2.1.2 ∧ Box 38 8 col_65 w_64 g_37 #[(.bool r_21.2.1.1), (.slice ra_26 r_21.2.1.2.length rc_27)] ∧ f 26 = (.bool v_66) ∧ f 3 = (.pointer (some ⟨g_6, 0, none⟩)) ∧ f 4 = (.pointer (some ⟨g_11, 0, none⟩)) ∧ f 5 = (.pointer (some ⟨g_16, 0, none⟩)) ∧ f 7 = (.pointer (some ⟨g_32, 0, none⟩)) ∧ f 8 = (.pointer (some ⟨g_37, 0, none⟩)) ∧ f 9 = (.int .i64 r_21.2.2) ∧ f 1000000 = (enc [])) ?_ ?_
 ·intro f w_64 hJ
  obtain ⟨col_65, v_66, hm, hst, h1_0, hb_10, hb_15, hb_20, rh_25, hb_45, rh_28, hb_49, hs26, hs3, hs4, hs5, hs7, hs8, hs9, hs1000000⟩ := hJ
  rw [m_whole_Floor_J1.eq_1] at hm
  refine .lD 26 hs26 ?_
  refine .lD 3 hs3 ?_
  refine .lD 4 hs4 ?_
  refine .lD 5 hs5 ?_
  refine .lD 7 hs7 ?_
  refine .lD 8 hs8 ?_
  refine .lD 9 hs9 ?_
  refine .lD 1000000 hs1000000 ?_
  clear hs26 hs3 hs4 hs5 hs7 hs8 hs9 hs1000000
  refine wcond (v_66) rfl (fun hb => ?_) (fun hb => ?_)
  ·rw [if_pos hb] at hm
   clear hb
   cases hm
  rw [if_neg (by rw [hb]; decide)] at hm
  clear hb
  refine wK (wS ?_)
  refine wmix (col := col_65) [(0, 0), (3, 0), (4, 0), (1, 3), (2, 3), (5, 3), (6, 2), (7, 2), (8, 1)] (by kernel_rfl) (by kernel_rfl) ?_
  refine xv (v := (.agg #[(.bool r_21.1.1), (.slice ra_23 r_21.1.2.length rc_24)])) rfl rfl (fun _ hC => r_ldN Tryz.isAgg38 Tryz.sizeOf38 rfl rfl (hb_45.atN.gr (Grow.of_below (col := col_65) hC.below))) ?_
  refine xv (v := (.agg #[(.bool r_21.2.1.1), (.slice ra_26 r_21.2.1.2.length rc_27)])) rfl rfl (fun _ hC => r_ldN Tryz.isAgg38 Tryz.sizeOf38 rfl rfl (hb_49.atN.gr (Grow.of_below (col := col_65) hC.below))) ?_
  refine xv (v := (.agg #[(.bool p1_b.1), (.slice a1_0 p1_b.2.length cap1_0)])) rfl rfl (fun _ hC => r_ldN Tryz.isAgg38 Tryz.sizeOf38 rfl rfl (hb_10.atN.gr (Grow.of_below (col := col_65) hC.below))) ?_
  refine xe rfl rfl ?_
  intro w_67 hC0
  have hC : Grow col_65 w_64 col_65 w_67 := .of_below hC0.below
  obtain ⟨r_68, hr_69, hm⟩ := bS hm
  refine lc rfl rfl (r_call1 Tryz.call82 rfl) (c_whole_Of N 9 col_65 _ 1 r_68 hr_69) ?_
  rintro _ w_73 ⟨col_75, ra_70, rc_71, rfl, hg_74, rh_72⟩
  refine ⟨_, rfl, ?_⟩
  refine lN ⟨fun w' => Grow col_75 w_73 col_75 w', Grow.refl _ _, fun _ _ h => cls hC0 hg_74 h, ?_⟩
  refine xe rfl rfl ?_
  intro w_76 hC0
  replace rh_25 := (rh_25.gr hC).gr hg_74
  replace rh_28 := (rh_28.gr hC).gr hg_74
  replace h1_0 := (h1_0.gr hC).gr hg_74
  replace hb_15 := (hb_15.gr hC).gr hg_74
  replace hb_20 := (hb_20.gr hC).gr hg_74
  replace hst := (hst.grow hC).grow hg_74
  have hC : Grow col_75 w_73 col_75 w_76 := .of_below hC0.below
  obtain ⟨r_77, hr_78, hm⟩ := bS hm
  replace rh_25 := rh_25.gr hC
  replace rh_72 := rh_72.gr hC
  refine lc rfl rfl (r_call2 Tryz.call109 rfl rfl) (c_whole_Sub N 10 (frC 9 (frC 5 col_75)) _ ra_23 rc_24 (r_21.1.1, r_21.1.2) ra_70 rc_71 (r_68.1, r_68.2) ((rh_25.toSlF (Froz.int .u32)).froz 9) ((rh_72.froz 5 (by decide)).toSlF (Froz.int .u32)) r_77 hr_78) ?_
  rintro _ w_82 ⟨col_84, ra_79, rc_80, rfl, hg_83, rh_81⟩
  refine ⟨_, rfl, ?_⟩
  replace rh_81 := rh_81.thaw (flat_int .u32) hg_83 (((Fz.refl (col := col_75)).froz 5).froz 9) (by decide)
  replace hg_83 := hg_83.thawR (col := col_75)
  generalize colR w_76.heap.size col_75 col_84 = col_85 at *
  refine lN ⟨fun w' => Grow col_85 w_82 col_85 w', Grow.refl _ _, fun _ _ h => cls hC0 hg_83 h, ?_⟩
  refine xe rfl rfl ?_
  intro w_86 hC0
  replace rh_28 := (rh_28.gr hC).gr hg_83
  replace h1_0 := (h1_0.gr hC).gr hg_83
  replace hb_15 := (hb_15.gr hC).gr hg_83
  replace hb_20 := (hb_20.gr hC).gr hg_83
  replace hst := (hst.grow hC).grow hg_83
  have hC : Grow col_85 w_82 col_85 w_86 := .of_below hC0.below
  obtain ⟨r_87, hr_88, hm⟩ := bS hm
  replace rh_28 := rh_28.gr hC
  replace h1_0 := h1_0.gr hC
  refine lc rfl rfl (r_call2 Tryz.call80 rfl rfl) (c_whole_Add N 11 (frC 6 col_85) _ ra_26 rc_27 (r_21.2.1.1, r_21.2.1.2) a1_0 cap1_0 (p1_b.1, p1_b.2) (rh_28.toSlF (Froz.int .u32)) (h1_0.froz 6) r_87 hr_88) ?_
  rintro _ w_92 ⟨col_94, ra_89, rc_90, rfl, hg_93, rh_91⟩
  refine ⟨_, rfl, ?_⟩
  replace rh_91 := rh_91.thaw (flat_int .u32) hg_93 ((Fz.refl (col := col_85)).froz 6) (by decide)
  replace hg_93 := hg_93.thawR (col := col_85)
  generalize colR w_86.heap.size col_85 col_94 = col_95 at *
  refine lN ⟨fun w' => Grow col_95 w_92 col_95 w', Grow.refl _ _, fun _ _ h => cls hC0 hg_93 h, ?_⟩
  refine xe rfl rfl ?_
  intro w_96 hC0
  replace rh_81 := (rh_81.gr hC).gr hg_93
  replace hb_15 := (hb_15.gr hC).gr hg_93
  replace hb_20 := (hb_20.gr hC).gr hg_93
  replace hst := (hst.grow hC).grow hg_93
  have hC : Grow col_95 w_92 col_95 w_96 := .of_below hC0.below
  replace hb_15 := hb_15.gr hC
  refine l_bstore (v := (.agg #[(.bool r_77.1), (.slice ra_79 r_77.2.length rc_80)])) hb_15 Tryz.sizeOf38 rfl rfl (by intro u hu; simp only [Value.cells, List.mem_cons, List.not_mem_nil, or_false] at hu; rcases hu with rfl | rfl <;> rfl) rfl rfl ?_
  intro w_97 hk_98 hs_99 hb_100
  clear hb_15
  replace hb_100 : Box 38 3 col_95 w_97 g_11 #[(.bool r_77.1), (.slice ra_79 r_77.2.length rc_80)] := hb_100
  refine lN ⟨fun w' => Grow col_95 w_97 col_95 w', Grow.refl _ _, fun h => absurd h (by decide), ?_⟩
  refine xe rfl rfl ?_
  intro w_101 hC0
  replace rh_81 := (rh_81.gr hC).kp hk_98
  replace rh_91 := (rh_91.gr hC).kp hk_98
  replace hb_20 := (hb_20.gr hC).kp hk_98
  replace hst := (hst.grow hC).kp hk_98 hs_99
  have hC : Grow col_95 w_97 col_95 w_101 := .of_below hC0.below
  replace hb_20 := hb_20.gr hC
  refine l_bstore (v := (.agg #[(.bool r_87.1), (.slice ra_89 r_87.2.length rc_90)])) hb_20 Tryz.sizeOf38 rfl rfl (by intro u hu; simp only [Value.cells, List.mem_cons, List.not_mem_nil, or_false] at hu; rcases hu with rfl | rfl <;> rfl) rfl rfl ?_
  intro w_102 hk_103 hs_104 hb_105
  clear hb_20
  replace hb_105 : Box 38 4 col_95 w_102 g_16 #[(.bool r_87.1), (.slice ra_89 r_87.2.length rc_90)] := hb_105
  refine lN ⟨fun w' => Grow col_95 w_102 col_95 w', Grow.refl _ _, fun h => absurd h (by decide), ?_⟩
  refine xu (v := (.int .i64 0)) rfl rfl (fun _ => r_assign rfl) ?_
  refine xnil ?_
  replace rh_81 := (rh_81.gr hC).kp hk_103
  replace rh_91 := (rh_91.gr hC).kp hk_103
  replace hb_100 := (hb_100.gr hC).kp hk_103
  replace hst := (hst.grow hC).kp hk_103 hs_104
  intro w_106 hC
  replace hC : Grow col_95 w_102 col_95 w_106 := .of_below hC.below
  refine wret ?_
  cases hm
  replace rh_81 := rh_81.gr hC
  replace rh_91 := rh_91.gr hC
  replace hb_100 := hb_100.gr hC
  replace hb_105 := hb_105.gr hC
  replace hst := hst.grow hC
  exact ⟨rfl, _, res_aat rfl rfl Tryz.isAgg38 Tryz.sizeOf38 rfl rfl hb_100.atN rfl Tryz.isAgg38 Tryz.sizeOf38 rfl rfl hb_105.atN rfl rfl, colF w0.heap.size col col_95 (fun n => bif Nat.beq n 10 then c1 else bif Nat.beq n 11 then c2 else 0), ra_79, rc_80, ra_89, rc_90, rfl, hst.fin (fun n => bif Nat.beq n 10 then c1 else bif Nat.beq n 11 then c2 else 0), hst.finOwn (g := (fun n => bif Nat.beq n 10 then c1 else bif Nat.beq n 11 then c2 else 0)) rfl rh_81 (by decide) (by decide) rfl, hst.finOwn (g := (fun n => bif Nat.beq n 10 then c1 else bif Nat.beq n 11 then c2 else 0)) rfl rh_91 (by decide) (by decide) rfl⟩
 refine wquiet (col := col_39) (by kernel_rfl) (by kernel_rfl) ?_
 refine qv (v := (.int .i64 r_21.2.2)) rfl (fun _ hC => r_move rfl) ?_
 refine qv (v := (.bool (!decide (r_21.2.2 = 0)))) rfl (fun _ hC => r_neq r_21.2.2 0 rfl rfl) ?_
 refine qv (v := (.bool (!decide (r_21.2.2 = 0)))) rfl (fun _ hC => r_move rfl) ?_
 by_cases hg_107 : (!decide (r_21.2.2 = 0)) = true
 ·rw [if_pos hg_107] at hm
  refine qp (b := !decide (r_21.2.2 = 0)) 19 rfl rfl rfl rfl (by rw [hg_107]; rfl) ?_
  refine qp (b := !decide (r_21.2.2 = 0)) 19 rfl rfl rfl rfl (by rw [hg_107]; rfl) ?_
  refine qp (b := !decide (r_21.2.2 = 0)) 19 rfl rfl rfl rfl (by rw [hg_107]; rfl) ?_
  refine qp (b := !decide (r_21.2.2 = 0)) 19 rfl rfl rfl rfl (by rw [hg_107]; rfl) ?_
  refine qp (b := !decide (r_21.2.2 = 0)) 19 rfl rfl rfl rfl (by rw [hg_107]; rfl) ?_
  refine qp (b := !decide (r_21.2.2 = 0)) 19 rfl rfl rfl rfl (by rw [hg_107]; rfl) ?_
  refine qv (v := (.bool true)) rfl (fun _ hC => r_pickT (congrArg Value.bool hg_107) rfl) ?_
  refine qnil ?_
  intro w_108 hC
  replace hC : Grow col_39 w_46 col_39 w_108 := .of_below hC.below
  replace h1_0 := h1_0.gr hC
  replace rh_25 := rh_25.gr hC
  replace rh_28 := rh_28.gr hC
  replace hb_10 := hb_10.gr hC
  replace hb_15 := hb_15.gr hC
  replace hb_20 := hb_20.gr hC
  replace hb_45 := hb_45.gr hC
  replace hb_49 := hb_49.gr hC
  replace hst := hst.grow hC
  exact ⟨col_39, true, hm, hst, h1_0, hb_10, hb_15, hb_20, rh_25, hb_45, rh_28, hb_49, rfl, rfl, rfl, rfl, rfl, rfl, rfl, rfl⟩
 rw [if_neg hg_107] at hm
 replace hg_107 := Bool.eq_false_iff.2 hg_107
 refine qg (b := !decide (r_21.2.2 = 0)) 19 rfl rfl rfl (by rw [hg_107]; rfl) ?_
 refine qv (v := (.agg #[(.bool r_21.2.1.1), (.slice ra_26 r_21.2.1.2.length rc_27)])) rfl (fun _ hC => r_ldN Tryz.isAgg38 Tryz.sizeOf38 rfl rfl (hb_49.atN.gr (Grow.of_below (col := col_39) hC.below))) ?_
 refine qg (b := !decide (r_21.2.2 = 0)) 19 rfl rfl rfl (by rw [hg_107]; rfl) ?_
 obtain ⟨r_109, hr_110, hm⟩ := bS hm
 refine qc (v := (.int .i64 r_109)) rfl (fun _ hC => ⟨_, _, r_call1 Tryz.call76 rfl, (c_whole_Sign N (frC 6 col_39) _ ra_26 rc_27 (r_21.2.1.1, r_21.2.1.2) ((rh_28.gr (Grow.of_below (col := col_39) hC.below)).toSlF (Froz.int .u32)) r_109 hr_110).mono fun _ _ h => ⟨h.1, hC.trans (.of_below h.2)⟩⟩) ?_
 refine qg (b := !decide (r_21.2.2 = 0)) 19 rfl rfl rfl (by rw [hg_107]; rfl) ?_
 refine qv (v := (.agg #[(.bool p1_b.1), (.slice a1_0 p1_b.2.length cap1_0)])) rfl (fun _ hC => r_ldN Tryz.isAgg38 Tryz.sizeOf38 rfl rfl (hb_10.atN.gr (Grow.of_below (col := col_39) hC.below))) ?_
 refine qg (b := !decide (r_21.2.2 = 0)) 19 rfl rfl rfl (by rw [hg_107]; rfl) ?_
 obtain ⟨r_111, hr_112, hm⟩ := bS hm
 refine qc (v := (.int .i64 r_111)) rfl (fun _ hC => ⟨_, _, r_call1 Tryz.call76 rfl, (c_whole_Sign N col_39 _ a1_0 cap1_0 (p1_b.1, p1_b.2) (h1_0.gr (Grow.of_below (col := col_39) hC.below)) r_111 hr_112).mono fun _ _ h => ⟨h.1, hC.trans (.of_below h.2)⟩⟩) ?_
 refine qg (b := !decide (r_21.2.2 = 0)) 19 rfl rfl rfl (by rw [hg_107]; rfl) ?_
 refine qv (v := (.int .i64 (IntKind.i64.wrap (r_109 * r_111)))) rfl (fun _ hC => r_mul r_109 r_111 rfl rfl) ?_
 refine qg (b := !decide (r_21.2.2 = 0)) 19 rfl rfl rfl (by rw [hg_107]; rfl) ?_
 refine qv (v := (.bool (decide (0 ≤ (IntKind.i64.wrap (r_109 * r_111)))))) rfl (fun _ hC => r_geq (IntKind.i64.wrap (r_109 * r_111)) 0 rfl rfl) ?_
 refine qv (v := (.bool (decide (0 ≤ (IntKind.i64.wrap (r_109 * r_111)))))) rfl (fun _ hC => r_pickF (congrArg Value.bool hg_107) rfl) ?_
 refine qnil ?_
 intro w_113 hC
 replace hC : Grow col_39 w_46 col_39 w_113 := .of_below hC.below
 replace h1_0 := h1_0.gr hC
 replace rh_25 := rh_25.gr hC
 replace rh_28 := rh_28.gr hC
 replace hb_10 := hb_10.gr hC
 replace hb_15 := hb_15.gr hC
 replace hb_20 := hb_20.gr hC
 replace hb_45 := hb_45.gr hC
 replace hb_49 := hb_49.gr hC
 replace hst := hst.grow hC
 exact ⟨col_39, (decide (0 ≤ (IntKind.i64.wrap (r_109 * r_111)))), hm, hst, h1_0, hb_10, hb_15, hb_20, rh_25, hb_45, rh_28, hb_49, rfl, rfl, rfl, rfl, rfl, rfl, rfl, rfl⟩
def m_frac_Floor (N : Nat) (p0_a : ((Bool × (List Int)) × (List Int))) : Option (Bool × (List Int)) :=
  (m_frac_under N ((p0_a.1.1, p0_a.1.2), p0_a.2)).bind fun r_13 => (m_whole_Floor N (p0_a.1.1, p0_a.1.2) (false, r_13)).bind fun r_23 => some (r_23.1.1, r_23.1.2)
theorem c_frac_Floor (N : Nat) (c1 : Nat) (col : Col) (w0 : World) (a0_0 : Option Addr) (cap0_0 : Nat) (a0_2 : Option Addr) (cap0_2 : Nat) (p0_a : ((Bool × (List Int)) × (List Int))) (h0_0 : Sl (Rep.int .u32) col w0 a0_0 cap0_0 p0_a.1.2) (h0_2 : Sl (Rep.int .u32) col w0 a0_2 cap0_2 p0_a.2) (r : (Bool × (List Int))) (hm : m_frac_Floor N p0_a = some r) :
    Calls Tryz.prog 65 #[(.agg #[(.bool p0_a.1.1), (.slice a0_0 p0_a.1.2.length cap0_0), (.slice a0_2 p0_a.2.length cap0_2)])] w0 (fun e w' => ∃ (col' : Col) (ra1 : Option Addr) (rc2 : Nat), e = .returned ((.agg #[(.bool r.1), (.slice ra1 r.2.length rc2)])) ∧ Grow col w0 col' w' ∧ Own (Rep.int .u32) 114 c1 col' w' ra1 rc2 r.2) := by
 refine calls_ofR (m := 17) (args := [(.agg #[(.bool p0_a.1.1), (.slice a0_0 p0_a.1.2.length cap0_0), (.slice a0_2 p0_a.2.length cap0_2)])]) Tryz.func65 rfl rfl rfl ?_
 rw [m_frac_Floor.eq_1] at hm
 have hst := St.start col w0
 refine wS (wR ?_)
 refine l_box (col := (col0 col)) (v := (.agg #[(.bool p0_a.1.1), (.slice a0_0 p0_a.1.2.length cap0_0), (.slice a0_2 p0_a.2.length cap0_2)])) 1 rfl rfl ?_
 intro g_1 w_2 col_3 hg_4 hb_5
 replace hb_5 : Box 40 1 col_3 w_2 g_1 #[(.bool p0_a.1.1), (.slice a0_0 p0_a.1.2.length cap0_0), (.slice a0_2 p0_a.2.length cap0_2)] := hb_5
 refine l_alloc (col := col_3) (v := (.agg #[(.bool false), (.slice none (([] : List Int).length) 0)])) 2 rfl Tryz.zeroValue38 ?_
 intro g_6 w_7 col_8 hg_9 hb_10
 replace hb_10 : Box 38 2 col_8 w_7 g_6 #[(.bool false), (.slice none (([] : List Int).length) 0)] := hb_10
 refine lN (wS ?_)
 have hk_11 := KeepP.clip (fun _ => false) col_8 w_7
 refine wmixF (col := col_8) [(0, 1), (1, 0), (2, 0), (3, 3), (4, 1), (5, 3), (6, 1), (7, 1), (8, 1), (9, 1), (10, 4), (11, 4), (12, 2), (13, 2), (14, 1)] (by kernel_rfl) (by kernel_rfl) ⟨fun h => absurd h (by decide), fun h => absurd h (by decide), fun h => absurd h (by decide), fun h => absurd h (by decide), fun h => absurd h (by decide), fun h => absurd h (by decide), fun h => absurd h (by decide), fun h => absurd h (by decide), fun h => absurd h (by decide), fun h => absurd h (by decide), fun _ => ⟨_, _, _, rfl, free_alloc Tryz.zeroValue38⟩, fun _ => ⟨_, _, _, rfl, free_alloc Tryz.zeroValue38⟩, fun h => absurd h (by decide), fun h => absurd h (by decide), fun h => absurd h (by decide), trivial⟩ ?_
 refine xuF (v := (.pointer ((some (⟨g_1, 0, none⟩ : Addr)).map (·.add 0)))) rfl rfl (fun _ => rF (sz := 2) (off := 0) Tryz.underlying40 rfl Tryz.sizeOf38 (by decide) rfl rfl ⟨_, _, rfl⟩) ?_
 replace hb_5 := (hb_5.gr hg_9).kpp hk_11
 refine xvF (v := (.agg #[(.bool p0_a.1.1), (.slice a0_0 p0_a.1.2.length cap0_0)])) rfl rfl (fun _ hC => r_ldN Tryz.isAgg38 Tryz.sizeOf38 rfl rfl (((hb_5.atN).part 0 2 _ rfl).gr (Grow.of_below (col := (clipC w_7 col_8)) hC.below))) ?_
 refine xvF (v := (.agg #[(.bool p0_a.1.1), (.slice a0_0 p0_a.1.2.length cap0_0), (.slice a0_2 p0_a.2.length cap0_2)])) rfl rfl (fun _ hC => r_ldN Tryz.isAgg40 Tryz.sizeOf40 rfl rfl (hb_5.atN.gr (Grow.of_below (col := (clipC w_7 col_8)) hC.below))) ?_
 refine xeF rfl rfl ?_
 intro w_12 hC0
 have hC : Grow (clipC w_7 col_8) w_7 (clipC w_7 col_8) w_12 := .of_below hC0.below
 obtain ⟨r_13, hr_14, hm⟩ := bS hm
 replace h0_0 := ((((h0_0.keep (Stay.start col w0)).gr hg_4).gr hg_9).kpp hk_11).gr hC
 replace h0_2 := ((((h0_2.keep (Stay.start col w0)).gr hg_4).gr hg_9).kpp hk_11).gr hC
 refine lc rfl rfl (r_call1 Tryz.call56 rfl) (c_frac_under N 3 (clipC w_7 col_8) _ a0_0 cap0_0 a0_2 cap0_2 ((p0_a.1.1, p0_a.1.2), p0_a.2) h0_0 h0_2 r_13 hr_14) ?_
 rintro _ w_18 ⟨col_20, ra_15, rc_16, rfl, hg_19, rh_17⟩
 refine ⟨_, rfl, ?_⟩
 refine lN ⟨fun w' => Grow (clipC w_18 col_20) w_18 (clipC w_18 col_20) w', fun g => (clipC w_18 col_20) g = 497, Grow.refl _ _, good_clip, fun _ => ⟨fun _ h => cls hC0 hg_19 h, fun b hb => hg_19.below.block b hb, fun g h1 h2 => fcl hg_19 g h1 (by first | exact h2 | (simp only [frC, rcC, h2]; rfl))⟩, ?_⟩
 have hk_21 := KeepP.clip (fun _ => false) col_20 w_18
 refine xuF (v := (.agg #[(.bool false), (.slice ra_15 r_13.length rc_16)])) rfl rfl (fun _ => r_build (l := [_, _]) (qs := [(0, 1), (1, 1)]) Tryz.underlying38 Tryz.zeroValue38 ⟨rfl, Tryz.sizeOf4, rfl, Tryz.sizeOf36, trivial⟩ rfl) ?_
 refine xeF rfl rfl ?_
 intro w_22 hC0
 replace hst := (((((hst.grow hg_4).grow hg_9).kpp hk_11).grow hC).grow hg_19).kpp hk_21
 replace hb_10 := (((hb_10.kpp hk_11).gr hC).gr hg_19).kpp hk_21
 have hC : Grow (clipC w_18 col_20) w_18 (clipC w_18 col_20) w_22 := .of_below hC0.below
 obtain ⟨r_23, hr_24, hm⟩ := bS hm
 replace h0_0 := ((h0_0.gr hg_19).kpp hk_21).gr hC
 replace rh_17 := (rh_17.kpp hk_21).gr hC
 refine lc rfl rfl (r_call2 Tryz.call113 rfl rfl) (c_whole_Floor N 4 5 (frC 3 (clipC w_18 col_20)) _ a0_0 cap0_0 (p0_a.1.1, p0_a.1.2) ra_15 rc_16 (false, r_13) (h0_0.froz 3) (rh_17.toSlF (Froz.int .u32)) r_23 hr_24) ?_
 rintro _ w_31 ⟨col_33, ra_25, rc_26, ra_28, rc_29, rfl, hg_32, rh_27, rh_30⟩
 refine ⟨_, rfl, ?_⟩
 replace rh_27 := rh_27.thaw (flat_int .u32) hg_32 ((Fz.refl (col := (clipC w_18 col_20))).froz 3) (by decide)
 replace hg_32 := hg_32.thawR (col := (clipC w_18 col_20))
 generalize colR w_22.heap.size (clipC w_18 col_20) col_33 = col_34 at *
 refine lN ⟨fun w' => Grow (clipC w_31 col_34) w_31 (clipC w_31 col_34) w', fun g => (clipC w_31 col_34) g = 497, Grow.refl _ _, good_clip, fun _ => ⟨fun _ h => cls hC0 hg_32 h, fun b hb => hg_32.below.block b hb, fun g h1 h2 => fcl hg_32 g h1 (by first | exact h2 | (simp only [frC, rcC, h2]; rfl))⟩, ?_⟩
 have hk_35 := KeepP.clip (fun _ => false) col_34 w_31
 refine xuF (v := (.tuple #[(.agg #[(.bool r_23.1.1), (.slice ra_25 r_23.1.2.length rc_26)]), (.agg #[(.bool r_23.2.1.1), (.slice ra_28 r_23.2.1.2.length rc_29)]), (.int .i64 r_23.2.2)])) rfl rfl (fun _ => r_move rfl) ?_
 refine xuF (v := (.agg #[(.bool r_23.1.1), (.slice ra_25 r_23.1.2.length rc_26)])) rfl rfl (fun _ => r_extract rfl rfl) ?_
 refine xuF (v := (.agg #[(.bool r_23.2.1.1), (.slice ra_28 r_23.2.1.2.length rc_29)])) rfl rfl (fun _ => r_extract rfl rfl) ?_
 refine xuF (v := (.int .i64 r_23.2.2)) rfl rfl (fun _ => r_extract rfl rfl) ?_
 refine xaF rfl rfl (free_alloc Tryz.zeroValue38) ?_
 intro g_36 hF_37
 refine xaF rfl rfl (free_alloc Tryz.zeroValue38) ?_
 intro g_38 hF_39
 refine xeF rfl rfl ?_
 intro w_40 ⟨⟨hC0, hZ0⟩, hZ1⟩
 replace hb_10 := ((hb_10.gr hC).gr hg_32).kpp hk_35
 replace hst := ((hst.grow hC).grow hg_32).kpp hk_35
 have hC : Grow (clipC w_31 col_34) w_31 (clipC w_31 col_34) w_40 := .of_below hC0.below
 obtain ⟨hk_42, hb_41⟩ := box_float (col := (clipC w_31 col_34)) 6 hZ0 hF_37
 replace hb_41 : Box 38 6 (setC g_36 6 (clipC w_31 col_34)) w_40 g_36 #[(.bool false), (.slice none (([] : List Int).length) 0)] := hb_41
 obtain ⟨hk_44, hb_43⟩ := box_float (col := (setC g_36 6 (clipC w_31 col_34))) 7 hZ1 ((if_neg hF_39.2 : setC g_36 6 _ g_38 = _).trans hF_39.1)
 replace hb_43 : Box 38 7 (setC g_38 7 (setC g_36 6 (clipC w_31 col_34))) w_40 g_38 #[(.bool false), (.slice none (([] : List Int).length) 0)] := hb_43
 replace hb_41 := hb_41.kpp hk_44
 refine l_bstore (v := (.agg #[(.bool r_23.1.1), (.slice ra_25 r_23.1.2.length rc_26)])) hb_41 Tryz.sizeOf38 rfl rfl (by intro u hu; simp only [Value.cells, List.mem_cons, List.not_mem_nil, or_false] at hu; rcases hu with rfl | rfl <;> rfl) rfl rfl ?_
 intro w_45 hk_46 hs_47 hb_48
 clear hb_41
 replace hb_48 : Box 38 6 (setC g_38 7 (setC g_36 6 (clipC w_31 col_34))) w_45 g_36 #[(.bool r_23.1.1), (.slice ra_25 r_23.1.2.length rc_26)] := hb_48
 refine lN ⟨fun w' => Grow (clipC w_45 (setC g_38 7 (setC g_36 6 (clipC w_31 col_34)))) w_45 (clipC w_45 (setC g_38 7 (setC g_36 6 (clipC w_31 col_34)))) w', fun g => (clipC w_45 (setC g_38 7 (setC g_36 6 (clipC w_31 col_34)))) g = 497, Grow.refl _ _, good_clip, fun h => absurd h (by decide), ?_⟩
 have hk_49 := KeepP.clip (fun _ => false) (setC g_38 7 (setC g_36 6 (clipC w_31 col_34))) w_45
 refine xeF rfl rfl ?_
 intro w_50 hC0
 replace rh_27 := (((((rh_27.kpp hk_35).gr hC).kpp hk_42).kpp hk_44).kp hk_46).kpp hk_49
 replace hb_10 := ((((hb_10.gr hC).kpp hk_42).kpp hk_44).kp hk_46).kpp hk_49
 replace hst := ((((hst.grow hC).kpp hk_42).kpp hk_44).kp hk_46 hs_47).kpp hk_49
 have hC : Grow (clipC w_45 (setC g_38 7 (setC g_36 6 (clipC w_31 col_34)))) w_45 (clipC w_45 (setC g_38 7 (setC g_36 6 (clipC w_31 col_34)))) w_50 := .of_below hC0.below
 replace hb_43 := ((hb_43.kp hk_46).kpp hk_49).gr hC
 refine l_bstore (v := (.agg #[(.bool r_23.2.1.1), (.slice ra_28 r_23.2.1.2.length rc_29)])) hb_43 Tryz.sizeOf38 rfl rfl (by intro u hu; simp only [Value.cells, List.mem_cons, List.not_mem_nil, or_false] at hu; rcases hu with rfl | rfl <;> rfl) rfl rfl ?_
 intro w_51 hk_52 hs_53 hb_54
 clear hb_43
 refine lN ⟨fun w' => Grow (clipC w_51 (clipC w_45 (setC g_38 7 (setC g_36 6 (clipC w_31 col_34))))) w_51 (clipC w_51 (clipC w_45 (setC g_38 7 (setC g_36 6 (clipC w_31 col_34))))) w', fun g => (clipC w_51 (clipC w_45 (setC g_38 7 (setC g_36 6 (clipC w_31 col_34))))) g = 497, Grow.refl _ _, good_clip, fun h => absurd h (by decide), ?_⟩
 have hk_55 := KeepP.clip (fun _ => false) (clipC w_45 (setC g_38 7 (setC g_36 6 (clipC w_31 col_34)))) w_51
 refine xuF (v := (.int .i64 r_23.2.2)) rfl rfl (fun _ => r_assign rfl) ?_
 refine xnilF ?_
 replace hb_48 := (((hb_48.kpp hk_49).gr hC).kp hk_52).kpp hk_55
 replace rh_27 := ((rh_27.gr hC).kp hk_52).kpp hk_55
 replace hb_10 := ((hb_10.gr hC).kp hk_52).kpp hk_55
 replace hst := ((hst.grow hC).kp hk_52 hs_53).kpp hk_55
 intro w_56 hC
 replace hC : Grow (clipC w_51 (clipC w_45 (setC g_38 7 (setC g_36 6 (clipC w_31 col_34))))) w_51 (clipC w_51 (clipC w_45 (setC g_38 7 (setC g_36 6 (clipC w_31 col_34))))) w_56 := .of_below hC.below
 refine wS (wR ?_)
 replace hb_48 := hb_48.gr hC
 refine lV (.agg #[(.bool r_23.1.1), (.slice ra_25 r_23.1.2.length rc_26)]) (r_ldN Tryz.isAgg38 Tryz.sizeOf38 rfl rfl hb_48.atN) ?_
 replace hb_10 := hb_10.gr hC
 refine l_bstore (v := (.agg #[(.bool r_23.1.1), (.slice ra_25 r_23.1.2.length rc_26)])) hb_10 Tryz.sizeOf38 rfl rfl (by intro u hu; simp only [Value.cells, List.mem_cons, List.not_mem_nil, or_false] at hu; rcases hu with rfl | rfl <;> rfl) rfl rfl ?_
 intro w_57 hk_58 hs_59 hb_60
 clear hb_10
 replace hb_60 : Box 38 2 (clipC w_51 (clipC w_45 (setC g_38 7 (setC g_36 6 (clipC w_31 col_34))))) w_57 g_6 #[(.bool r_23.1.1), (.slice ra_25 r_23.1.2.length rc_26)] := hb_60
 refine lN ?_
 refine wret ?_
 cases hm
 replace rh_27 := (rh_27.gr hC).kp hk_58
 replace hst := (hst.grow hC).kp hk_58 hs_59
 exact ⟨rfl, _, res_a rfl rfl Tryz.isAgg38 Tryz.sizeOf38 rfl rfl hb_60.atN, colF w0.heap.size col (clipC w_51 (clipC w_45 (setC g_38 7 (setC g_36 6 (clipC w_31 col_34))))) (fun n => bif Nat.beq n 4 then c1 else 0), ra_25, rc_26, rfl, hst.fin (fun n => bif Nat.beq n 4 then c1 else 0), hst.finOwn (g := (fun n => bif Nat.beq n 4 then c1 else 0)) rfl rh_27 (by decide) (by decide) rfl⟩
def m_whole_Neg (N : Nat) (p0_a : (Bool × (List Int))) : Option (Bool × (List Int)) :=
  (m_whole_of N (!p0_a.1) p0_a.2).bind fun r_11 => some (r_11.1, r_11.2)
theorem c_whole_Neg (N : Nat) (c1 : Nat) (col : Col) (w0 : World) (a0_0 : Option Addr) (cap0_0 : Nat) (p0_a : (Bool × (List Int))) (h0_0 : Sl (Rep.int .u32) col w0 a0_0 cap0_0 p0_a.2) (r : (Bool × (List Int))) (hm : m_whole_Neg N p0_a = some r) :
    Calls Tryz.prog 64 #[(.agg #[(.bool p0_a.1), (.slice a0_0 p0_a.2.length cap0_0)])] w0 (fun e w' => ∃ (col' : Col) (ra1 : Option Addr) (rc2 : Nat), e = .returned ((.agg #[(.bool r.1), (.slice ra1 r.2.length rc2)])) ∧ Grow col w0 col' w' ∧ Own (Rep.int .u32) 114 c1 col' w' ra1 rc2 r.2) := by
 refine calls_ofR (m := 9) (args := [(.agg #[(.bool p0_a.1), (.slice a0_0 p0_a.2.length cap0_0)])]) Tryz.func64 rfl rfl rfl ?_
 rw [m_whole_Neg.eq_1] at hm
 have hst := St.start col w0
 refine wS (wR ?_)
 refine l_box (col := (col0 col)) (v := (.agg #[(.bool p0_a.1), (.slice a0_0 p0_a.2.length cap0_0)])) 1 rfl rfl ?_
 intro g_1 w_2 col_3 hg_4 hb_5
 replace hb_5 : Box 38 1 col_3 w_2 g_1 #[(.bool p0_a.1), (.slice a0_0 p0_a.2.length cap0_0)] := hb_5
 refine l_alloc (col := col_3) (v := (.agg #[(.bool false), (.slice none (([] : List Int).length) 0)])) 2 rfl Tryz.zeroValue38 ?_
 intro g_6 w_7 col_8 hg_9 hb_10
 replace hb_10 : Box 38 2 col_8 w_7 g_6 #[(.bool false), (.slice none (([] : List Int).length) 0)] := hb_10
 refine lN (wS (wR ?_))
 refine lV (.pointer ((some (⟨g_1, 0, none⟩ : Addr)).map (·.add 0))) (rF (sz := 1) (off := 0) Tryz.underlying38 rfl Tryz.sizeOf4 (by decide) rfl rfl ⟨_, _, rfl⟩) ?_
 replace hb_5 := hb_5.gr hg_9
 refine lV (.bool p0_a.1) (r_ld Tryz.isAgg4 rfl ((hb_5.atN).nth (q := 0) (v := (.bool p0_a.1)) rfl)) ?_
 refine lV (.bool (!p0_a.1)) (r_not p0_a.1 rfl) ?_
 refine lV (.pointer ((some (⟨g_1, 0, none⟩ : Addr)).map (·.add 1))) (rF (sz := 1) (off := 1) Tryz.underlying38 rfl Tryz.sizeOf36 (by decide) rfl rfl ⟨_, _, rfl⟩) ?_
 refine lV (.slice a0_0 p0_a.2.length cap0_0) (r_ld Tryz.isAgg36 rfl ((hb_5.atN).nth (q := 1) (v := (.slice a0_0 p0_a.2.length cap0_0)) rfl)) ?_
 obtain ⟨r_11, hr_12, hm⟩ := bS hm
 replace h0_0 := ((h0_0.keep (Stay.start col w0)).gr hg_4).gr hg_9
 refine lc rfl rfl (r_call2 Tryz.call112 rfl rfl) (c_whole_of N 3 col_8 _ (!p0_a.1) a0_0 cap0_0 p0_a.2 h0_0 r_11 hr_12) ?_
 rintro _ w_16 ⟨col_18, ra_13, rc_14, rfl, hg_17, rh_15⟩
 refine ⟨_, rfl, ?_⟩
 replace hb_10 := hb_10.gr hg_17
 refine l_bstore (v := (.agg #[(.bool r_11.1), (.slice ra_13 r_11.2.length rc_14)])) hb_10 Tryz.sizeOf38 rfl rfl (by intro u hu; simp only [Value.cells, List.mem_cons, List.not_mem_nil, or_false] at hu; rcases hu with rfl | rfl <;> rfl) rfl rfl ?_
 intro w_19 hk_20 hs_21 hb_22
 clear hb_10
 replace hb_22 : Box 38 2 col_18 w_19 g_6 #[(.bool r_11.1), (.slice ra_13 r_11.2.length rc_14)] := hb_22
 refine lN ?_
 refine wret ?_
 cases hm
 replace hst := (((hst.grow hg_4).grow hg_9).grow hg_17).kp hk_20 hs_21
 replace rh_15 := rh_15.kp hk_20
 exact ⟨rfl, _, res_a rfl rfl Tryz.isAgg38 Tryz.sizeOf38 rfl rfl hb_22.atN, colF w0.heap.size col col_18 (fun n => bif Nat.beq n 3 then c1 else 0), ra_13, rc_14, rfl, hst.fin (fun n => bif Nat.beq n 3 then c1 else 0), hst.finOwn (g := (fun n => bif Nat.beq n 3 then c1 else 0)) rfl rh_15 (by decide) (by decide) rfl⟩
def m_code_digits_J1 (v_10 : Int) (kk_L1 : (Int → (List Int) → Option ByteArray)) (out_17 : List Int) : Option ByteArray :=
  kk_L1 (IntKind.i64.wrap (v_10 + 1)) out_17
def m_code_digits_J2 (v_10 : Int) (kk_L1 : (Int → (List Int) → Option ByteArray)) (xs_28 : List Int) (v_39 : Bool) : Option ByteArray :=
  if v_39 = true then ((at? xs_28 v_10).bind fun e_40 => (some (xs_28.set (Int.toNat v_10) 49)).bind fun xs_47 => m_code_digits_J1 v_10 kk_L1 xs_47) else (m_code_digits_J1 v_10 kk_L1 xs_28)
def m_code_digits_L1 (N : Nat) (p0_a : (List Int)) (p1_k : Int) : Nat → Int → (List Int) → Option ByteArray
  | 0, _, _ => none
  | n_7 + 1, v_10, out_11 => if (decide (v_10 < ((List.replicate (Int.toNat p1_k) (0 : Int)).length : Int))) = true then ((at? out_11 v_10).bind fun e_21 => (some (out_11.set (Int.toNat v_10) 48)).bind fun xs_28 => if (decide ((IntKind.i64.wrap (Int.tdiv (IntKind.i64.wrap ((IntKind.i64.wrap (p1_k - 1)) - v_10)) 32)) < (p0_a.length : Int))) = true then ((at? p0_a (IntKind.i64.wrap (Int.tdiv (IntKind.i64.wrap ((IntKind.i64.wrap (p1_k - 1)) - v_10)) 32))).bind fun e_49 => chk (0 ≤ (Int.tmod (IntKind.i64.wrap ((IntKind.i64.wrap (p1_k - 1)) - v_10)) 32)) (m_code_digits_J2 v_10 (m_code_digits_L1 N p0_a p1_k n_7) xs_28 (decide ((iand .u32 (ishr .u32 e_49 (Int.tmod (IntKind.i64.wrap ((IntKind.i64.wrap (p1_k - 1)) - v_10)) 32)) 1) = 1)))) else (m_code_digits_J2 v_10 (m_code_digits_L1 N p0_a p1_k n_7) xs_28 false)) else (some (bstr out_11))
termination_by structural x => x
def m_code_digits (N : Nat) (p0_a : (List Int)) (p1_k : Int) : Option ByteArray :=
  chk ((Int.toNat p1_k) * 1 ≤ 281474976710656 ∧ (Int.toNat p1_k) ≤ maxLen ∧ 0 ≤ p1_k) (m_code_digits_L1 N p0_a p1_k N 0 (List.replicate (Int.toNat p1_k) (0 : Int)))
theorem c_code_digits (N : Nat) (col : Col) (w0 : World) (a0 : Option Addr) (cap0 : Nat) (p0_a : (List Int)) (p1_k : Int) (h0 : Sl (Rep.int .u32) col w0 a0 cap0 p0_a) (r : ByteArray) (hm : m_code_digits N p0_a p1_k = some r) :
    Calls Tryz.prog 68 #[(.slice a0 p0_a.length cap0), (.int .i64 p1_k)] w0 (fun e w' => e = .returned ((.string r)) ∧ Below w0.heap.size w0 w') := by
 refine calls_of1 4 (m := 45) (args := [(.slice a0 p0_a.length cap0), (.int .i64 p1_k)]) Tryz.func68 rfl rfl rfl rfl rfl ?_
 rw [m_code_digits.eq_1] at hm
 have hst := St.start col w0
 refine wS (wR ?_)
 refine lA (.string (⟨#[]⟩)) ?_
 refine lN (wS (wR ?_))
 refine lM (.int .i64 p1_k) ?_
 obtain ⟨hb_1, hm⟩ := cS hm
 refine l_make (col := (col0 col)) (w := w0) (r := (Rep.int .u8)) (n := (Int.toNat p1_k)) (x0 := 0) 1 rfl Tryz.underlying150 Tryz.t5 rfl rfl rfl rfl rfl (congrArg (Value.int _) (Int.toNat_of_nonneg hb_1.2.2).symm) (congrArg (Value.int _) (Int.toNat_of_nonneg hb_1.2.2).symm) hb_1.1 hb_1.2.1 (rd_int .u8 0) ?_
 intro a_2 w_3 col_4 hg_5 h_6
 refine lA (.slice a_2 ((List.replicate (Int.toNat p1_k) (0 : Int)).length) (Int.toNat p1_k)) ?_
 refine lN (wS (wS (wR ?_)))
 refine lM (.slice a_2 ((List.replicate (Int.toNat p1_k) (0 : Int)).length) (Int.toNat p1_k)) ?_
 refine lV (.int .i64 ((List.replicate (Int.toNat p1_k) (0 : Int)).length : Int)) (r_len Tryz.underlying150 rfl) ?_
 refine lM (.int .i64 0) ?_
 refine lN (wB ?_)
 replace h0 := (h0.keep (Stay.start col w0)).gr hg_5
 replace hst := hst.grow hg_5
 refine wloop (fun n f w_8 => ∃ (col_9 : Col) (v_10 : Int) (a_12 : Option Addr) (cap_13 : Nat) (out_11 : List Int) (n_7 : Nat), n_7 = n ∧ m_code_digits_L1 N p0_a p1_k n_7 v_10 out_11 = some r ∧ St w0 (col0 col) col_9 w_8 ∧ Sl (Rep.int .u32) col_9 w_8 a0 cap0 p0_a ∧ Own (Rep.int .u8) 5 1 col_9 w_8 a_12 cap_13 out_11 ∧ f 0 = (.slice a0 p0_a.length cap0) ∧ f 1 = (.int .i64 p1_k) ∧ f 11 = (.int .i64 ((List.replicate (Int.toNat p1_k) (0 : Int)).length : Int)) ∧ f 12 = (.int .i64 v_10) ∧ f 5 = (.slice a_12 out_11.length cap_13) ∧ f 1000000 = (enc [])) N ⟨col_4, 0, a_2, (Int.toNat p1_k), (List.replicate (Int.toNat p1_k) (0 : Int)), N, rfl, hm, hst, h0, h_6, rfl, rfl, rfl, rfl, rfl, rfl⟩ ?_
 clear hm; intro n f w_8 hI
 obtain ⟨col_9, v_10, a_12, cap_13, out_11, n_7, hn, hm, hst, h0, h_14, hs0, hs1, hs11, hs12, hs5, hs1000000⟩ := hI
 subst hn
 refine .lD 0 hs0 ?_
 refine .lD 1 hs1 ?_
 refine .lD 11 hs11 ?_
 refine .lD 12 hs12 ?_
 refine .lD 5 hs5 ?_
 refine .lD 1000000 hs1000000 ?_
 clear hs0 hs1 hs11 hs12 hs5 hs1000000
 cases n_7 with
 | zero => rw [m_code_digits_L1.eq_1] at hm; cases hm
 | succ n_7 =>
  rw [m_code_digits_L1.eq_2] at hm
  refine wS (wR ?_)
  refine lV (.bool (decide (v_10 < ((List.replicate (Int.toNat p1_k) (0 : Int)).length : Int)))) (r_lss v_10 ((List.replicate (Int.toNat p1_k) (0 : Int)).length : Int) rfl rfl) ?_
  refine lN (wS ?_)
  refine wcond (decide (v_10 < ((List.replicate (Int.toNat p1_k) (0 : Int)).length : Int))) rfl (fun hb => ?_) (fun hb => ?_)
  ·rw [if_pos hb] at hm
   clear hb
   refine wK (wS ?_)
   refine Wp.cut (fun f w_15 => ∃ (col_16 : Col) (a_18 : Option Addr) (cap_19 : Nat) (out_17 : List Int), m_code_digits_J1 v_10 (m_code_digits_L1 N p0_a p1_k n_7) out_17 = some r ∧ St w0 (col0 col) col_16 w_15 ∧ Sl (Rep.int .u32) col_16 w_15 a0 cap0 p0_a ∧ Own (Rep.int .u8) 5 1 col_16 w_15 a_18 cap_19 out_17 ∧ f 0 = (.slice a0 p0_a.length cap0) ∧ f 1 = (.int .i64 p1_k) ∧ f 11 = (.int .i64 ((List.replicate (Int.toNat p1_k) (0 : Int)).length : Int)) ∧ f 12 = (.int .i64 v_10) ∧ f 5 = (.slice a_18 out_17.length cap_19) ∧ f 1000000 = (enc [])) ?_ ?_
   ·intro f w_15 hJ
    obtain ⟨col_16, a_18, cap_19, out_17, hm, hst, h0, h_20, hs0, hs1, hs11, hs12, hs5, hs1000000⟩ := hJ
    rw [m_code_digits_J1.eq_1] at hm
    refine .lD 0 hs0 ?_
    refine .lD 1 hs1 ?_
    refine .lD 11 hs11 ?_
    refine .lD 12 hs12 ?_
    refine .lD 5 hs5 ?_
    refine .lD 1000000 hs1000000 ?_
    clear hs0 hs1 hs11 hs12 hs5 hs1000000
    refine wR ?_
    refine lV (.int .i64 (IntKind.i64.wrap (v_10 + 1))) (r_add v_10 1 rfl rfl) ?_
    refine lM (.int .i64 (IntKind.i64.wrap (v_10 + 1))) ?_
    refine lN ?_
    exact ⟨n_7, by omega, ⟨col_16, (IntKind.i64.wrap (v_10 + 1)), a_18, cap_19, out_17, n_7, rfl, hm, hst, h0, h_20, rfl, rfl, rfl, rfl, rfl, rfl⟩⟩
   refine wB (wS (wR ?_))
   refine lM (.int .i64 v_10) ?_
   refine lA (.int .i64 v_10) ?_
   refine lN (wS (wR ?_))
   refine lM (.int .i64 p1_k) ?_
   refine lV (.int .i64 (IntKind.i64.wrap (p1_k - 1))) (r_sub p1_k 1 rfl rfl) ?_
   refine lM (.int .i64 v_10) ?_
   refine lV (.int .i64 (IntKind.i64.wrap ((IntKind.i64.wrap (p1_k - 1)) - v_10))) (r_sub (IntKind.i64.wrap (p1_k - 1)) v_10 rfl rfl) ?_
   refine lA (.int .i64 (IntKind.i64.wrap ((IntKind.i64.wrap (p1_k - 1)) - v_10))) ?_
   refine lN (wS (wR ?_))
   refine lM (.slice a_12 out_11.length cap_13) ?_
   refine lM (.int .i64 v_10) ?_
   obtain ⟨e_21, hj_22, hm⟩ := bS hm
   refine lV (sptr a_12 (Int.toNat v_10 * 1)) (r_idx Tryz.underlying150 Tryz.sizeOf5 rfl rfl (at?_some hj_22).1 (at?_some hj_22).2.1 (h_14.addr hj_22)) ?_
   obtain ⟨xs_28, hz_27, hm⟩ := bS hm
   have hz_27 : xs_28 = out_11.set (Int.toNat v_10) 48 := (Option.some.inj hz_27).symm
   refine l_store (x1 := 48) (v := (.int .u8 48)) h_14 hj_22 rfl Tryz.sizeOf5 (rd_int .u8 48) rfl rfl (by decide) ?_
   intro w_23 hk_24 hs_25 h_26
   rw [← hz_27] at h_26
   refine .ld (d := 5) (v := (.slice a_12 xs_28.length cap_13)) (congrArg (fun n => Value.slice a_12 n cap_13) (show out_11.length = xs_28.length by rw [hz_27, List.length_set])) ?_
   clear h_14
   refine lN (wS ?_)
   replace h0 := h0.kp hk_24
   replace hst := hst.kp hk_24 hs_25
   refine Wp.cut (fun f w_37 => ∃ (col_38 : Col) (v_39 : Bool), m_code_digits_J2 v_10 (m_code_digits_L1 N p0_a p1_k n_7) xs_28 v_39 = some r ∧ St w0 (col0 col) col_38 w_37 ∧ Sl (Rep.int .u32) col_38 w_37 a0 cap0 p0_a ∧ Own (Rep.int .u8) 5 1 col_38 w_37 a_12 cap_13 xs_28 ∧ f 0 = (.slice a0 p0_a.length cap0) ∧ f 1 = (.int .i64 p1_k) ∧ f 11 = (.int .i64 ((List.replicate (Int.toNat p1_k) (0 : Int)).length : Int)) ∧ f 12 = (.int .i64 v_10) ∧ f 38 = (.bool v_39) ∧ f 5 = (.slice a_12 xs_28.length cap_13) ∧ f 6 = (.int .i64 v_10) ∧ f 1000000 = (enc [])) ?_ ?_
   ·intro f w_37 hJ
    obtain ⟨col_38, v_39, hm, hst, h0, h_26, hs0, hs1, hs11, hs12, hs38, hs5, hs6, hs1000000⟩ := hJ
    rw [m_code_digits_J2.eq_1] at hm
    refine .lD 0 hs0 ?_
    refine .lD 1 hs1 ?_
    refine .lD 11 hs11 ?_
    refine .lD 12 hs12 ?_
    refine .lD 38 hs38 ?_
    refine .lD 5 hs5 ?_
    refine .lD 6 hs6 ?_
    refine .lD 1000000 hs1000000 ?_
    clear hs0 hs1 hs11 hs12 hs38 hs5 hs6 hs1000000
    refine wcond (v_39) rfl (fun hb => ?_) (fun hb => ?_)
    ·rw [if_pos hb] at hm
     clear hb
     refine wR ?_
     refine lM (.slice a_12 xs_28.length cap_13) ?_
     refine lM (.int .i64 v_10) ?_
     obtain ⟨e_40, hj_41, hm⟩ := bS hm
     refine lV (sptr a_12 (Int.toNat v_10 * 1)) (r_idx Tryz.underlying150 Tryz.sizeOf5 rfl rfl (at?_some hj_41).1 (at?_some hj_41).2.1 (h_26.addr hj_41)) ?_
     obtain ⟨xs_47, hz_46, hm⟩ := bS hm
     have hz_46 : xs_47 = xs_28.set (Int.toNat v_10) 49 := (Option.some.inj hz_46).symm
     refine l_store (x1 := 49) (v := (.int .u8 49)) h_26 hj_41 rfl Tryz.sizeOf5 (rd_int .u8 49) rfl rfl (by decide) ?_
     intro w_42 hk_43 hs_44 h_45
     rw [← hz_46] at h_45
     refine .ld (d := 5) (v := (.slice a_12 xs_47.length cap_13)) (congrArg (fun n => Value.slice a_12 n cap_13) (show xs_28.length = xs_47.length by rw [hz_46, List.length_set])) ?_
     clear h_26
     refine lN ?_
     replace h0 := h0.kp hk_43
     replace hst := hst.kp hk_43 hs_44
     exact ⟨col_38, a_12, cap_13, xs_47, hm, hst, h0, h_45, rfl, rfl, rfl, rfl, rfl, rfl⟩
    rw [if_neg (by rw [hb]; decide)] at hm
    clear hb
    refine wK ?_
    exact ⟨col_38, a_12, cap_13, xs_28, hm, hst, h0, h_26, rfl, rfl, rfl, rfl, rfl, rfl⟩
   refine wR ?_
   refine lM (.int .i64 (IntKind.i64.wrap ((IntKind.i64.wrap (p1_k - 1)) - v_10))) ?_
   refine lV (.int .i64 (IntKind.i64.wrap (Int.tdiv (IntKind.i64.wrap ((IntKind.i64.wrap (p1_k - 1)) - v_10)) 32))) (r_quo (IntKind.i64.wrap ((IntKind.i64.wrap (p1_k - 1)) - v_10)) 32 rfl rfl (by decide)) ?_
   refine lM (.slice a0 p0_a.length cap0) ?_
   refine lV (.int .i64 (p0_a.length : Int)) (r_len Tryz.underlying36 rfl) ?_
   refine lV (.bool (decide ((IntKind.i64.wrap (Int.tdiv (IntKind.i64.wrap ((IntKind.i64.wrap (p1_k - 1)) - v_10)) 32)) < (p0_a.length : Int)))) (r_lss (IntKind.i64.wrap (Int.tdiv (IntKind.i64.wrap ((IntKind.i64.wrap (p1_k - 1)) - v_10)) 32)) (p0_a.length : Int) rfl rfl) ?_
   refine lM (.bool (decide ((IntKind.i64.wrap (Int.tdiv (IntKind.i64.wrap ((IntKind.i64.wrap (p1_k - 1)) - v_10)) 32)) < (p0_a.length : Int)))) ?_
   by_cases hg_48 : (decide ((IntKind.i64.wrap (Int.tdiv (IntKind.i64.wrap ((IntKind.i64.wrap (p1_k - 1)) - v_10)) 32)) < (p0_a.length : Int))) = true
   ·rw [if_pos hg_48] at hm
    refine lg (b := decide ((IntKind.i64.wrap (Int.tdiv (IntKind.i64.wrap ((IntKind.i64.wrap (p1_k - 1)) - v_10)) 32)) < (p0_a.length : Int))) 27 rfl rfl rfl (by rw [hg_48]; rfl) ?_
    refine lM (.slice a0 p0_a.length cap0) ?_
    refine lg (b := decide ((IntKind.i64.wrap (Int.tdiv (IntKind.i64.wrap ((IntKind.i64.wrap (p1_k - 1)) - v_10)) 32)) < (p0_a.length : Int))) 27 rfl rfl rfl (by rw [hg_48]; rfl) ?_
    refine lM (.int .i64 (IntKind.i64.wrap ((IntKind.i64.wrap (p1_k - 1)) - v_10))) ?_
    refine lg (b := decide ((IntKind.i64.wrap (Int.tdiv (IntKind.i64.wrap ((IntKind.i64.wrap (p1_k - 1)) - v_10)) 32)) < (p0_a.length : Int))) 27 rfl rfl rfl (by rw [hg_48]; rfl) ?_
    refine lV (.int .i64 (IntKind.i64.wrap (Int.tdiv (IntKind.i64.wrap ((IntKind.i64.wrap (p1_k - 1)) - v_10)) 32))) (r_quo (IntKind.i64.wrap ((IntKind.i64.wrap (p1_k - 1)) - v_10)) 32 rfl rfl (by decide)) ?_
    refine lg (b := decide ((IntKind.i64.wrap (Int.tdiv (IntKind.i64.wrap ((IntKind.i64.wrap (p1_k - 1)) - v_10)) 32)) < (p0_a.length : Int))) 27 rfl rfl rfl (by rw [hg_48]; rfl) ?_
    obtain ⟨e_49, hj_50, hm⟩ := bS hm
    refine lV (sptr a0 (Int.toNat (IntKind.i64.wrap (Int.tdiv (IntKind.i64.wrap ((IntKind.i64.wrap (p1_k - 1)) - v_10)) 32)) * 1)) (r_idx Tryz.underlying36 Tryz.sizeOf114 rfl rfl (at?_some hj_50).1 (at?_some hj_50).2.1 (h0.addr hj_50)) ?_
    refine lg (b := decide ((IntKind.i64.wrap (Int.tdiv (IntKind.i64.wrap ((IntKind.i64.wrap (p1_k - 1)) - v_10)) 32)) < (p0_a.length : Int))) 27 rfl rfl rfl (by rw [hg_48]; rfl) ?_
    refine lV (.int .u32 e_49) (r_ld Tryz.isAgg114 rfl (h0.atInt hj_50)) ?_
    refine lg (b := decide ((IntKind.i64.wrap (Int.tdiv (IntKind.i64.wrap ((IntKind.i64.wrap (p1_k - 1)) - v_10)) 32)) < (p0_a.length : Int))) 27 rfl rfl rfl (by rw [hg_48]; rfl) ?_
    refine lM (.int .i64 (IntKind.i64.wrap ((IntKind.i64.wrap (p1_k - 1)) - v_10))) ?_
    refine lg (b := decide ((IntKind.i64.wrap (Int.tdiv (IntKind.i64.wrap ((IntKind.i64.wrap (p1_k - 1)) - v_10)) 32)) < (p0_a.length : Int))) 27 rfl rfl rfl (by rw [hg_48]; rfl) ?_
    refine lV (.int .i64 (Int.tmod (IntKind.i64.wrap ((IntKind.i64.wrap (p1_k - 1)) - v_10)) 32)) (r_rem (IntKind.i64.wrap ((IntKind.i64.wrap (p1_k - 1)) - v_10)) 32 rfl rfl (by decide)) ?_
    refine lg (b := decide ((IntKind.i64.wrap (Int.tdiv (IntKind.i64.wrap ((IntKind.i64.wrap (p1_k - 1)) - v_10)) 32)) < (p0_a.length : Int))) 27 rfl rfl rfl (by rw [hg_48]; rfl) ?_
    obtain ⟨h0_51, hm⟩ := cS hm
    refine lV (.int .u32 (ishr .u32 e_49 (Int.tmod (IntKind.i64.wrap ((IntKind.i64.wrap (p1_k - 1)) - v_10)) 32))) (r_shr e_49 (Int.tmod (IntKind.i64.wrap ((IntKind.i64.wrap (p1_k - 1)) - v_10)) 32) rfl rfl h0_51) ?_
    refine lg (b := decide ((IntKind.i64.wrap (Int.tdiv (IntKind.i64.wrap ((IntKind.i64.wrap (p1_k - 1)) - v_10)) 32)) < (p0_a.length : Int))) 27 rfl rfl rfl (by rw [hg_48]; rfl) ?_
    refine lV (.int .u32 (iand .u32 (ishr .u32 e_49 (Int.tmod (IntKind.i64.wrap ((IntKind.i64.wrap (p1_k - 1)) - v_10)) 32)) 1)) (r_and (ishr .u32 e_49 (Int.tmod (IntKind.i64.wrap ((IntKind.i64.wrap (p1_k - 1)) - v_10)) 32)) 1 rfl rfl) ?_
    refine lg (b := decide ((IntKind.i64.wrap (Int.tdiv (IntKind.i64.wrap ((IntKind.i64.wrap (p1_k - 1)) - v_10)) 32)) < (p0_a.length : Int))) 27 rfl rfl rfl (by rw [hg_48]; rfl) ?_
    refine lV (.bool (decide ((iand .u32 (ishr .u32 e_49 (Int.tmod (IntKind.i64.wrap ((IntKind.i64.wrap (p1_k - 1)) - v_10)) 32)) 1) = 1))) (r_eql (iand .u32 (ishr .u32 e_49 (Int.tmod (IntKind.i64.wrap ((IntKind.i64.wrap (p1_k - 1)) - v_10)) 32)) 1) 1 rfl rfl) ?_
    refine lV (.bool (decide ((iand .u32 (ishr .u32 e_49 (Int.tmod (IntKind.i64.wrap ((IntKind.i64.wrap (p1_k - 1)) - v_10)) 32)) 1) = 1))) (r_pickT (congrArg Value.bool hg_48) rfl) ?_
    refine lN ?_
    exact ⟨col_9, (decide ((iand .u32 (ishr .u32 e_49 (Int.tmod (IntKind.i64.wrap ((IntKind.i64.wrap (p1_k - 1)) - v_10)) 32)) 1) = 1)), hm, hst, h0, h_26, rfl, rfl, rfl, rfl, rfl, rfl, rfl, rfl⟩
   rw [if_neg hg_48] at hm
   replace hg_48 := Bool.eq_false_iff.2 hg_48
   refine lp (b := decide ((IntKind.i64.wrap (Int.tdiv (IntKind.i64.wrap ((IntKind.i64.wrap (p1_k - 1)) - v_10)) 32)) < (p0_a.length : Int))) 27 rfl rfl rfl rfl (by rw [hg_48]; rfl) ?_
   refine lp (b := decide ((IntKind.i64.wrap (Int.tdiv (IntKind.i64.wrap ((IntKind.i64.wrap (p1_k - 1)) - v_10)) 32)) < (p0_a.length : Int))) 27 rfl rfl rfl rfl (by rw [hg_48]; rfl) ?_
   refine lp (b := decide ((IntKind.i64.wrap (Int.tdiv (IntKind.i64.wrap ((IntKind.i64.wrap (p1_k - 1)) - v_10)) 32)) < (p0_a.length : Int))) 27 rfl rfl rfl rfl (by rw [hg_48]; rfl) ?_
   refine lp (b := decide ((IntKind.i64.wrap (Int.tdiv (IntKind.i64.wrap ((IntKind.i64.wrap (p1_k - 1)) - v_10)) 32)) < (p0_a.length : Int))) 27 rfl rfl rfl rfl (by rw [hg_48]; rfl) ?_
   refine lp (b := decide ((IntKind.i64.wrap (Int.tdiv (IntKind.i64.wrap ((IntKind.i64.wrap (p1_k - 1)) - v_10)) 32)) < (p0_a.length : Int))) 27 rfl rfl rfl rfl (by rw [hg_48]; rfl) ?_
   refine lp (b := decide ((IntKind.i64.wrap (Int.tdiv (IntKind.i64.wrap ((IntKind.i64.wrap (p1_k - 1)) - v_10)) 32)) < (p0_a.length : Int))) 27 rfl rfl rfl rfl (by rw [hg_48]; rfl) ?_
   refine lp (b := decide ((IntKind.i64.wrap (Int.tdiv (IntKind.i64.wrap ((IntKind.i64.wrap (p1_k - 1)) - v_10)) 32)) < (p0_a.length : Int))) 27 rfl rfl rfl rfl (by rw [hg_48]; rfl) ?_
   refine lp (b := decide ((IntKind.i64.wrap (Int.tdiv (IntKind.i64.wrap ((IntKind.i64.wrap (p1_k - 1)) - v_10)) 32)) < (p0_a.length : Int))) 27 rfl rfl rfl rfl (by rw [hg_48]; rfl) ?_
   refine lp (b := decide ((IntKind.i64.wrap (Int.tdiv (IntKind.i64.wrap ((IntKind.i64.wrap (p1_k - 1)) - v_10)) 32)) < (p0_a.length : Int))) 27 rfl rfl rfl rfl (by rw [hg_48]; rfl) ?_
   refine lp (b := decide ((IntKind.i64.wrap (Int.tdiv (IntKind.i64.wrap ((IntKind.i64.wrap (p1_k - 1)) - v_10)) 32)) < (p0_a.length : Int))) 27 rfl rfl rfl rfl (by rw [hg_48]; rfl) ?_
   refine lV (.bool false) (r_pickF (congrArg Value.bool hg_48) rfl) ?_
   refine lN ?_
   exact ⟨col_9, false, hm, hst, h0, h_26, rfl, rfl, rfl, rfl, rfl, rfl, rfl, rfl⟩
  rw [if_neg (by rw [hb]; decide)] at hm
  clear hb
  refine wexit (inB_hit ?_)
  refine wS (wR ?_)
  refine lM (.slice a_12 out_11.length cap_13) ?_
  refine lV (.string (bstr out_11)) (r_bytesStr (c := 1) (c2 := 1) (h_14.srcN NB.int) Tryz.underlying150 Tryz.underlying5 Tryz.underlying9 rfl) ?_
  refine lA (.string (bstr out_11)) ?_
  refine lN ?_
  refine wret ?_
  cases hm
  exact ⟨rfl, rfl, hst.below⟩
theorem el114_19 : ElemOk Tryz.prog 114 1 4 := ⟨Tryz.t114, _, rfl, rfl, rfl, rfl, rfl⟩
def m_code_Encode_L1 (N : Nat) (r_6 : ((((Bool × (List Int)) × (List Int)) × ((Bool × (List Int)) × (List Int))) × Int)) : Nat → Int → Option (ByteArray × Int)
  | 0, _ => none
  | n_62 + 1, k_65 => (m_code_power N k_65).bind fun r_66 => (m_frac_Mul N ((r_6.1.1.1.1, r_6.1.1.1.2), r_6.1.1.2) ((r_66.1.1, r_66.1.2), r_66.2)).bind fun r_86 => (m_frac_Neg N ((r_86.1.1, r_86.1.2), r_86.2)).bind fun r_98 => (m_frac_Floor N ((r_98.1.1, r_98.1.2), r_98.2)).bind fun r_110 => (m_whole_Neg N (r_110.1, r_110.2)).bind fun r_119 => (m_code_one).bind fun r_143 => (m_frac_Add N ((r_119.1, r_119.2), [1]) ((r_143.1.1, r_143.1.2), r_143.2)).bind fun r_155 => (m_frac_Mul N ((r_6.1.2.1.1, r_6.1.2.1.2), r_6.1.2.2) ((r_66.1.1, r_66.1.2), r_66.2)).bind fun r_168 => (m_frac_Cmp N ((r_155.1.1, r_155.1.2), r_155.2) ((r_168.1.1, r_168.1.2), r_168.2)).bind fun r_181 => if (decide (r_181 ≤ 0)) = true then ((m_code_digits N r_119.2 k_65).bind fun r_186 => some (r_186, 0)) else ((m_code_Encode_L1 N r_6 n_62) (IntKind.i64.wrap (k_65 + 1)))
termination_by structural x => x
def m_code_Encode (N : Nat) (p0_n : (ByteArray × (List ByteArray) × (List (List ByteArray)) × (List (List Int)) × (List (List ((Bool × (List Int)) × (List Int)))))) (p1_values : (List Int)) : Option (ByteArray × Int) :=
  (m_code_Span N (p0_n.1, p0_n.2.1, p0_n.2.2.1, p0_n.2.2.2.1, p0_n.2.2.2.2) p1_values).bind fun r_6 => if (!decide (r_6.2 = 0)) = true then none else ((m_frac_Sub N ((r_6.1.2.1.1, r_6.1.2.1.2), r_6.1.2.2) ((r_6.1.1.1.1, r_6.1.1.1.2), r_6.1.1.2)).bind fun r_32 => (m_frac_Sign N ((r_32.1.1, r_32.1.2), r_32.2)).bind fun r_53 => if (decide (r_53 ≤ 0)) = true then none else ((m_nat_Bits N r_32.2).bind fun r_57 => (m_nat_Bits N r_32.1.2).bind fun r_59 => m_code_Encode_L1 N r_6 N (if 0 > (IntKind.i64.wrap ((IntKind.i64.wrap (r_57 - r_59)) - 1)) then 0 else (IntKind.i64.wrap ((IntKind.i64.wrap (r_57 - r_59)) - 1)))))
theorem c_code_Encode (N : Nat) (col : Col) (w0 : World) (a0_0 : Option Addr) (cap0_0 : Nat) (a0_2 : Option Addr) (cap0_2 : Nat) (a0_4 : Option Addr) (cap0_4 : Nat) (a0_6 : Option Addr) (cap0_6 : Nat) (p0_n : (ByteArray × (List ByteArray) × (List (List ByteArray)) × (List (List Int)) × (List (List ((Bool × (List Int)) × (List Int)))))) (a1 : Option Addr) (cap1 : Nat) (p1_values : (List Int)) (h0_0 : Sl Rep.str col w0 a0_0 cap0_0 p0_n.2.1) (h0_2 : Sl (Rep.slice Rep.str) col w0 a0_2 cap0_2 p0_n.2.2.1) (h0_4 : Sl (Rep.slice (Rep.int .i64)) col w0 a0_4 cap0_4 p0_n.2.2.2.1) (h0_6 : Sl (Rep.slice (Rep.pair (Rep.pair Rep.bool (Rep.slice (Rep.int .u32))) (Rep.slice (Rep.int .u32)))) col w0 a0_6 cap0_6 p0_n.2.2.2.2) (h1 : Sl (Rep.int .i64) col w0 a1 cap1 p1_values) (r : (ByteArray × Int)) (hm : m_code_Encode N p0_n p1_values = some r) :
    Calls Tryz.prog 19 #[(.agg #[(.string p0_n.1), (.slice a0_0 p0_n.2.1.length cap0_0), (.slice a0_2 p0_n.2.2.1.length cap0_2), (.slice a0_4 p0_n.2.2.2.1.length cap0_4), (.slice a0_6 p0_n.2.2.2.2.length cap0_6)]), (.slice a1 p1_values.length cap1)] w0 (fun e w' => e = .returned (.tuple #[(.string r.1), (.int .i64 r.2)]) ∧ Below w0.heap.size w0 w') := by
 refine calls_of2 4 5 (m := 66) (args := [(.agg #[(.string p0_n.1), (.slice a0_0 p0_n.2.1.length cap0_0), (.slice a0_2 p0_n.2.2.1.length cap0_2), (.slice a0_4 p0_n.2.2.2.1.length cap0_4), (.slice a0_6 p0_n.2.2.2.2.length cap0_6)]), (.slice a1 p1_values.length cap1)]) Tryz.func19 rfl rfl rfl rfl rfl ?_
 rw [m_code_Encode.eq_1] at hm
 have hst := St.start col w0
 refine wS (wR ?_)
 refine l_box (col := (col0 col)) (v := (.agg #[(.string p0_n.1), (.slice a0_0 p0_n.2.1.length cap0_0), (.slice a0_2 p0_n.2.2.1.length cap0_2), (.slice a0_4 p0_n.2.2.2.1.length cap0_4), (.slice a0_6 p0_n.2.2.2.2.length cap0_6)])) 1 rfl rfl ?_
 intro g_1 w_2 col_3 hg_4 hb_5
 replace hb_5 : Box 28 1 col_3 w_2 g_1 #[(.string p0_n.1), (.slice a0_0 p0_n.2.1.length cap0_0), (.slice a0_2 p0_n.2.2.1.length cap0_2), (.slice a0_4 p0_n.2.2.2.1.length cap0_4), (.slice a0_6 p0_n.2.2.2.2.length cap0_6)] := hb_5
 refine lA (.string (⟨#[]⟩)) ?_
 refine lA (.int .i64 0) ?_
 refine lN (wS (wR ?_))
 refine lV (.agg #[(.string p0_n.1), (.slice a0_0 p0_n.2.1.length cap0_0), (.slice a0_2 p0_n.2.2.1.length cap0_2), (.slice a0_4 p0_n.2.2.2.1.length cap0_4), (.slice a0_6 p0_n.2.2.2.2.length cap0_6)]) (r_ldN Tryz.isAgg28 Tryz.sizeOf28 rfl rfl hb_5.atN) ?_
 refine lM (.slice a1 p1_values.length cap1) ?_
 obtain ⟨r_6, hr_7, hm⟩ := bS hm
 replace h0_0 := (h0_0.keep (Stay.start col w0)).gr hg_4
 replace h0_2 := (h0_2.keep (Stay.start col w0)).gr hg_4
 replace h0_4 := (h0_4.keep (Stay.start col w0)).gr hg_4
 replace h0_6 := (h0_6.keep (Stay.start col w0)).gr hg_4
 replace h1 := (h1.keep (Stay.start col w0)).gr hg_4
 refine lc rfl rfl (r_call2 Tryz.call21 rfl rfl) (c_code_Span N 2 3 4 5 col_3 _ a0_0 cap0_0 a0_2 cap0_2 a0_4 cap0_4 a0_6 cap0_6 (p0_n.1, p0_n.2.1, p0_n.2.2.1, p0_n.2.2.2.1, p0_n.2.2.2.2) a1 cap1 p1_values h0_0 h0_2 h0_4 h0_6 h1 r_6 hr_7) ?_
 rintro _ w_20 ⟨col_22, ra_8, rc_9, ra_11, rc_12, ra_14, rc_15, ra_17, rc_18, rfl, hg_21, rh_10, rh_13, rh_16, rh_19⟩
 refine ⟨_, rfl, ?_⟩
 refine lM (.tuple #[(.agg #[(.bool r_6.1.1.1.1), (.slice ra_8 r_6.1.1.1.2.length rc_9), (.slice ra_11 r_6.1.1.2.length rc_12), (.bool r_6.1.2.1.1), (.slice ra_14 r_6.1.2.1.2.length rc_15), (.slice ra_17 r_6.1.2.2.length rc_18)]), (.int .i64 r_6.2)]) ?_
 refine lV (.agg #[(.bool r_6.1.1.1.1), (.slice ra_8 r_6.1.1.1.2.length rc_9), (.slice ra_11 r_6.1.1.2.length rc_12), (.bool r_6.1.2.1.1), (.slice ra_14 r_6.1.2.1.2.length rc_15), (.slice ra_17 r_6.1.2.2.length rc_18)]) (r_extract rfl rfl) ?_
 refine lV (.int .i64 r_6.2) (r_extract rfl rfl) ?_
 refine l_alloc (col := col_22) (v := (.agg #[(.bool false), (.slice none (([] : List Int).length) 0), (.slice none (([] : List Int).length) 0), (.bool false), (.slice none (([] : List Int).length) 0), (.slice none (([] : List Int).length) 0)])) 6 rfl Tryz.zeroValue62 ?_
 intro g_23 w_24 col_25 hg_26 hb_27
 replace hb_27 : Box 62 6 col_25 w_24 g_23 #[(.bool false), (.slice none (([] : List Int).length) 0), (.slice none (([] : List Int).length) 0), (.bool false), (.slice none (([] : List Int).length) 0), (.slice none (([] : List Int).length) 0)] := hb_27
 refine l_bstore (v := (.agg #[(.bool r_6.1.1.1.1), (.slice ra_8 r_6.1.1.1.2.length rc_9), (.slice ra_11 r_6.1.1.2.length rc_12), (.bool r_6.1.2.1.1), (.slice ra_14 r_6.1.2.1.2.length rc_15), (.slice ra_17 r_6.1.2.2.length rc_18)])) hb_27 Tryz.sizeOf62 rfl rfl (by intro u hu; simp only [Value.cells, List.mem_cons, List.not_mem_nil, or_false] at hu; rcases hu with rfl | rfl | rfl | rfl | rfl | rfl <;> rfl) rfl rfl ?_
 intro w_28 hk_29 hs_30 hb_31
 clear hb_27
 replace hb_31 : Box 62 6 col_25 w_28 g_23 #[(.bool r_6.1.1.1.1), (.slice ra_8 r_6.1.1.1.2.length rc_9), (.slice ra_11 r_6.1.1.2.length rc_12), (.bool r_6.1.2.1.1), (.slice ra_14 r_6.1.2.1.2.length rc_15), (.slice ra_17 r_6.1.2.2.length rc_18)] := hb_31
 refine lA (.int .i64 r_6.2) ?_
 refine lN (wS (wS (wR ?_)))
 refine lM (.int .i64 r_6.2) ?_
 refine lV (.bool (!decide (r_6.2 = 0))) (r_neq r_6.2 0 rfl rfl) ?_
 refine lN ?_
 replace hst := (((hst.grow hg_4).grow hg_21).grow hg_26).kp hk_29 hs_30
 replace rh_10 := (rh_10.gr hg_26).kp hk_29
 replace rh_13 := (rh_13.gr hg_26).kp hk_29
 replace rh_16 := (rh_16.gr hg_26).kp hk_29
 replace rh_19 := (rh_19.gr hg_26).kp hk_29
 refine wcond (!decide (r_6.2 = 0)) rfl (fun hb => ?_) (fun hb => ?_)
 ·rw [if_pos hb] at hm
  clear hb
  cases hm
 rw [if_neg (by rw [hb]; decide)] at hm
 clear hb
 refine wK (wS (wR ?_))
 refine lV (.pointer ((some (⟨g_23, 0, none⟩ : Addr)).map (·.add 3))) (rF (sz := 3) (off := 3) Tryz.underlying62 rfl Tryz.sizeOf40 (by decide) rfl rfl ⟨_, _, rfl⟩) ?_
 refine lV (.agg #[(.bool r_6.1.2.1.1), (.slice ra_14 r_6.1.2.1.2.length rc_15), (.slice ra_17 r_6.1.2.2.length rc_18)]) (r_ldN Tryz.isAgg40 Tryz.sizeOf40 rfl rfl ((hb_31.atN).part 3 3 _ rfl)) ?_
 refine lV (.pointer ((some (⟨g_23, 0, none⟩ : Addr)).map (·.add 0))) (rF (sz := 3) (off := 0) Tryz.underlying62 rfl Tryz.sizeOf40 (by decide) rfl rfl ⟨_, _, rfl⟩) ?_
 refine lV (.agg #[(.bool r_6.1.1.1.1), (.slice ra_8 r_6.1.1.1.2.length rc_9), (.slice ra_11 r_6.1.1.2.length rc_12)]) (r_ldN Tryz.isAgg40 Tryz.sizeOf40 rfl rfl ((hb_31.atN).part 0 3 _ rfl)) ?_
 obtain ⟨r_32, hr_33, hm⟩ := bS hm
 refine lc rfl rfl (r_call2 Tryz.call61 rfl rfl) (c_frac_Sub N 7 8 (frC 3 (frC 2 (frC 5 (frC 4 col_25)))) _ ra_14 rc_15 ra_17 rc_18 ((r_6.1.2.1.1, r_6.1.2.1.2), r_6.1.2.2) ra_8 rc_9 ra_11 rc_12 ((r_6.1.1.1.1, r_6.1.1.1.2), r_6.1.1.2) ((((rh_16.toSlF (Froz.int .u32)).froz 5).froz 2).froz 3) ((((rh_19.froz 4 (by decide)).toSlF (Froz.int .u32)).froz 2).froz 3) ((((rh_10.froz 4 (by decide)).froz 5 (by decide)).toSlF (Froz.int .u32)).froz 3) ((((rh_13.froz 4 (by decide)).froz 5 (by decide)).froz 2 (by decide)).toSlF (Froz.int .u32)) r_32 hr_33) ?_
 rintro _ w_40 ⟨col_42, ra_34, rc_35, ra_37, rc_38, rfl, hg_41, rh_36, rh_39⟩
 refine ⟨_, rfl, ?_⟩
 replace rh_36 := rh_36.thaw (flat_int .u32) hg_41 (((((Fz.refl (col := col_25)).froz 4).froz 5).froz 2).froz 3) (by decide)
 replace rh_39 := rh_39.thaw (flat_int .u32) hg_41 (((((Fz.refl (col := col_25)).froz 4).froz 5).froz 2).froz 3) (by decide)
 replace hg_41 := hg_41.thawR (col := col_25)
 generalize colR w_28.heap.size col_25 col_42 = col_43 at *
 refine l_alloc (col := col_43) (v := (.agg #[(.bool false), (.slice none (([] : List Int).length) 0), (.slice none (([] : List Int).length) 0)])) 9 rfl Tryz.zeroValue40 ?_
 intro g_44 w_45 col_46 hg_47 hb_48
 replace hb_48 : Box 40 9 col_46 w_45 g_44 #[(.bool false), (.slice none (([] : List Int).length) 0), (.slice none (([] : List Int).length) 0)] := hb_48
 refine l_bstore (v := (.agg #[(.bool r_32.1.1), (.slice ra_34 r_32.1.2.length rc_35), (.slice ra_37 r_32.2.length rc_38)])) hb_48 Tryz.sizeOf40 rfl rfl (by intro u hu; simp only [Value.cells, List.mem_cons, List.not_mem_nil, or_false] at hu; rcases hu with rfl | rfl | rfl <;> rfl) rfl rfl ?_
 intro w_49 hk_50 hs_51 hb_52
 clear hb_48
 replace hb_52 : Box 40 9 col_46 w_49 g_44 #[(.bool r_32.1.1), (.slice ra_34 r_32.1.2.length rc_35), (.slice ra_37 r_32.2.length rc_38)] := hb_52
 refine lN (wS (wS (wR ?_)))
 refine lV (.agg #[(.bool r_32.1.1), (.slice ra_34 r_32.1.2.length rc_35), (.slice ra_37 r_32.2.length rc_38)]) (r_ldN Tryz.isAgg40 Tryz.sizeOf40 rfl rfl hb_52.atN) ?_
 obtain ⟨r_53, hr_54, hm⟩ := bS hm
 replace rh_36 := (rh_36.gr hg_47).kp hk_50
 replace rh_39 := (rh_39.gr hg_47).kp hk_50
 refine lc rfl rfl (r_call1 Tryz.call24 rfl) (c_frac_Sign N (frC 8 (frC 7 col_46)) _ ra_34 rc_35 ra_37 rc_38 ((r_32.1.1, r_32.1.2), r_32.2) ((rh_36.toSlF (Froz.int .u32)).froz 8) ((rh_39.froz 7 (by decide)).toSlF (Froz.int .u32)) r_53 hr_54) ?_
 rintro _ w_55 ⟨rfl, hg_56⟩
 refine ⟨_, rfl, ?_⟩
 replace hg_56 : Grow col_46 w_49 col_46 w_55 := .of_below hg_56
 refine lV (.bool (decide (r_53 ≤ 0))) (r_leq r_53 0 rfl rfl) ?_
 refine lN ?_
 replace rh_10 := (((rh_10.gr hg_41).gr hg_47).kp hk_50).gr hg_56
 replace rh_13 := (((rh_13.gr hg_41).gr hg_47).kp hk_50).gr hg_56
 replace rh_16 := (((rh_16.gr hg_41).gr hg_47).kp hk_50).gr hg_56
 replace rh_19 := (((rh_19.gr hg_41).gr hg_47).kp hk_50).gr hg_56
 replace hb_31 := (((hb_31.gr hg_41).gr hg_47).kp hk_50).gr hg_56
 replace hst := (((hst.grow hg_41).grow hg_47).kp hk_50 hs_51).grow hg_56
 replace rh_36 := rh_36.gr hg_56
 replace rh_39 := rh_39.gr hg_56
 replace hb_52 := hb_52.gr hg_56
 refine wcond (decide (r_53 ≤ 0)) rfl (fun hb => ?_) (fun hb => ?_)
 ·rw [if_pos hb] at hm
  clear hb
  cases hm
 rw [if_neg (by rw [hb]; decide)] at hm
 clear hb
 refine wK (wS ?_)
 refine wquiet (col := col_46) (by kernel_rfl) (by kernel_rfl) ?_
 refine qv (v := (.pointer ((some (⟨g_44, 0, none⟩ : Addr)).map (·.add 2)))) rfl (fun _ hC => rF (sz := 1) (off := 2) Tryz.underlying40 rfl Tryz.sizeOf36 (by decide) rfl rfl ⟨_, _, rfl⟩) ?_
 refine qv (v := (.slice ra_37 r_32.2.length rc_38)) rfl (fun _ hC => r_ld Tryz.isAgg36 rfl (((hb_52.atN).nth (q := 2) (v := (.slice ra_37 r_32.2.length rc_38)) rfl).gr (Grow.of_below (col := col_46) hC.below))) ?_
 obtain ⟨r_57, hr_58, hm⟩ := bS hm
 refine qc (v := (.int .i64 r_57)) rfl (fun _ hC => ⟨_, _, r_call1 Tryz.call62 rfl, (c_nat_Bits N (frC 8 col_46) _ ra_37 rc_38 r_32.2 ((rh_39.gr (Grow.of_below (col := col_46) hC.below)).toSlF (Froz.int .u32)) r_57 hr_58).mono fun _ _ h => ⟨h.1, hC.trans (.of_below h.2)⟩⟩) ?_
 refine qv (v := (.pointer ((some (⟨g_44, 0, none⟩ : Addr)).map (·.add 0)))) rfl (fun _ hC => rF (sz := 2) (off := 0) Tryz.underlying40 rfl Tryz.sizeOf38 (by decide) rfl rfl ⟨_, _, rfl⟩) ?_
 refine qv (v := (.pointer (((some (⟨g_44, 0, none⟩ : Addr)).map (·.add 0)).map (·.add 1)))) rfl (fun _ hC => rF (sz := 1) (off := 1) Tryz.underlying38 rfl Tryz.sizeOf36 (by decide) rfl rfl (sptr_addr ⟨_, _, rfl⟩)) ?_
 refine qv (v := (.slice ra_34 r_32.1.2.length rc_35)) rfl (fun _ hC => r_ld Tryz.isAgg36 rfl (((((hb_52.atN).part 0 2 _ rfl)).nth (q := 1) (v := (.slice ra_34 r_32.1.2.length rc_35)) rfl).gr (Grow.of_below (col := col_46) hC.below))) ?_
 obtain ⟨r_59, hr_60, hm⟩ := bS hm
 refine qc (v := (.int .i64 r_59)) rfl (fun _ hC => ⟨_, _, r_call1 Tryz.call62 rfl, (c_nat_Bits N (frC 7 col_46) _ ra_34 rc_35 r_32.1.2 ((rh_36.gr (Grow.of_below (col := col_46) hC.below)).toSlF (Froz.int .u32)) r_59 hr_60).mono fun _ _ h => ⟨h.1, hC.trans (.of_below h.2)⟩⟩) ?_
 refine qv (v := (.int .i64 (IntKind.i64.wrap (r_57 - r_59)))) rfl (fun _ hC => r_sub r_57 r_59 rfl rfl) ?_
 refine qv (v := (.int .i64 (IntKind.i64.wrap ((IntKind.i64.wrap (r_57 - r_59)) - 1)))) rfl (fun _ hC => r_sub (IntKind.i64.wrap (r_57 - r_59)) 1 rfl rfl) ?_
 refine qv (v := (.int .i64 (if 0 > (IntKind.i64.wrap ((IntKind.i64.wrap (r_57 - r_59)) - 1)) then 0 else (IntKind.i64.wrap ((IntKind.i64.wrap (r_57 - r_59)) - 1))))) rfl (fun _ hC => r_max (IntKind.i64.wrap ((IntKind.i64.wrap (r_57 - r_59)) - 1)) 0 rfl rfl) ?_
 refine qv (v := (.int .i64 (if 0 > (IntKind.i64.wrap ((IntKind.i64.wrap (r_57 - r_59)) - 1)) then 0 else (IntKind.i64.wrap ((IntKind.i64.wrap (r_57 - r_59)) - 1))))) rfl (fun _ hC => r_assign rfl) ?_
 refine qnil ?_
 intro w_61 hC
 replace hC : Grow col_46 w_55 col_46 w_61 := .of_below hC.below
 refine wB ?_
 replace rh_10 := rh_10.gr hC
 replace rh_13 := rh_13.gr hC
 replace rh_16 := rh_16.gr hC
 replace rh_19 := rh_19.gr hC
 replace hb_31 := hb_31.gr hC
 replace hst := hst.grow hC
 refine wloop (fun n f w_63 => ∃ (col_64 : Col) (k_65 : Int) (n_62 : Nat), n_62 = n ∧ m_code_Encode_L1 N r_6 n_62 k_65 = some r ∧ St w0 (col0 col) col_64 w_63 ∧ Own (Rep.int .u32) 114 2 col_64 w_63 ra_8 rc_9 r_6.1.1.1.2 ∧ Own (Rep.int .u32) 114 3 col_64 w_63 ra_11 rc_12 r_6.1.1.2 ∧ Own (Rep.int .u32) 114 4 col_64 w_63 ra_14 rc_15 r_6.1.2.1.2 ∧ Own (Rep.int .u32) 114 5 col_64 w_63 ra_17 rc_18 r_6.1.2.2 ∧ Box 62 6 col_64 w_63 g_23 #[(.bool r_6.1.1.1.1), (.slice ra_8 r_6.1.1.1.2.length rc_9), (.slice ra_11 r_6.1.1.2.length rc_12), (.bool r_6.1.2.1.1), (.slice ra_14 r_6.1.2.1.2.length rc_15), (.slice ra_17 r_6.1.2.2.length rc_18)] ∧ f 6 = (.pointer (some ⟨g_23, 0, none⟩)) ∧ f 9 = (.int .i64 k_65) ∧ f 1000000 = (enc [])) N ⟨col_46, (if 0 > (IntKind.i64.wrap ((IntKind.i64.wrap (r_57 - r_59)) - 1)) then 0 else (IntKind.i64.wrap ((IntKind.i64.wrap (r_57 - r_59)) - 1))), N, rfl, hm, hst, rh_10, rh_13, rh_16, rh_19, hb_31, rfl, rfl, rfl⟩ ?_
 clear hm; intro n f w_63 hI
 obtain ⟨col_64, k_65, n_62, hn, hm, hst, rh_10, rh_13, rh_16, rh_19, hb_31, hs6, hs9, hs1000000⟩ := hI
 subst hn
 refine .lD 6 hs6 ?_
 refine .lD 9 hs9 ?_
 refine .lD 1000000 hs1000000 ?_
 clear hs6 hs9 hs1000000
 cases n_62 with
 | zero => rw [m_code_Encode_L1.eq_1] at hm; cases hm
 | succ n_62 =>
  rw [m_code_Encode_L1.eq_2] at hm
  refine wS (wB (wS (wR ?_)))
  refine lM (.int .i64 k_65) ?_
  obtain ⟨r_66, hr_67, hm⟩ := bS hm
  refine lc rfl rfl (r_call1 Tryz.call63 rfl) (c_code_power N 10 11 col_64 _ k_65 r_66 hr_67) ?_
  rintro _ w_74 ⟨col_76, ra_68, rc_69, ra_71, rc_72, rfl, hg_75, rh_70, rh_73⟩
  refine ⟨_, rfl, ?_⟩
  refine l_alloc (col := col_76) (v := (.agg #[(.bool false), (.slice none (([] : List Int).length) 0), (.slice none (([] : List Int).length) 0)])) 12 rfl Tryz.zeroValue40 ?_
  intro g_77 w_78 col_79 hg_80 hb_81
  replace hb_81 : Box 40 12 col_79 w_78 g_77 #[(.bool false), (.slice none (([] : List Int).length) 0), (.slice none (([] : List Int).length) 0)] := hb_81
  refine l_bstore (v := (.agg #[(.bool r_66.1.1), (.slice ra_68 r_66.1.2.length rc_69), (.slice ra_71 r_66.2.length rc_72)])) hb_81 Tryz.sizeOf40 rfl rfl (by intro u hu; simp only [Value.cells, List.mem_cons, List.not_mem_nil, or_false] at hu; rcases hu with rfl | rfl | rfl <;> rfl) rfl rfl ?_
  intro w_82 hk_83 hs_84 hb_85
  clear hb_81
  replace hb_85 : Box 40 12 col_79 w_82 g_77 #[(.bool r_66.1.1), (.slice ra_68 r_66.1.2.length rc_69), (.slice ra_71 r_66.2.length rc_72)] := hb_85
  refine lN (wS (wR ?_))
  refine lV (.pointer ((some (⟨g_23, 0, none⟩ : Addr)).map (·.add 0))) (rF (sz := 3) (off := 0) Tryz.underlying62 rfl Tryz.sizeOf40 (by decide) rfl rfl ⟨_, _, rfl⟩) ?_
  replace hb_31 := ((hb_31.gr hg_75).gr hg_80).kp hk_83
  refine lV (.agg #[(.bool r_6.1.1.1.1), (.slice ra_8 r_6.1.1.1.2.length rc_9), (.slice ra_11 r_6.1.1.2.length rc_12)]) (r_ldN Tryz.isAgg40 Tryz.sizeOf40 rfl rfl ((hb_31.atN).part 0 3 _ rfl)) ?_
  refine lV (.agg #[(.bool r_66.1.1), (.slice ra_68 r_66.1.2.length rc_69), (.slice ra_71 r_66.2.length rc_72)]) (r_ldN Tryz.isAgg40 Tryz.sizeOf40 rfl rfl hb_85.atN) ?_
  obtain ⟨r_86, hr_87, hm⟩ := bS hm
  replace rh_10 := ((rh_10.gr hg_75).gr hg_80).kp hk_83
  replace rh_13 := ((rh_13.gr hg_75).gr hg_80).kp hk_83
  replace rh_70 := (rh_70.gr hg_80).kp hk_83
  replace rh_73 := (rh_73.gr hg_80).kp hk_83
  refine lc rfl rfl (r_call2 Tryz.call35 rfl rfl) (c_frac_Mul N 13 14 (frC 11 (frC 10 (frC 3 (frC 2 col_79)))) _ ra_8 rc_9 ra_11 rc_12 ((r_6.1.1.1.1, r_6.1.1.1.2), r_6.1.1.2) ra_68 rc_69 ra_71 rc_72 ((r_66.1.1, r_66.1.2), r_66.2) ((((rh_10.toSlF (Froz.int .u32)).froz 3).froz 10).froz 11) ((((rh_13.froz 2 (by decide)).toSlF (Froz.int .u32)).froz 10).froz 11) ((((rh_70.froz 2 (by decide)).froz 3 (by decide)).toSlF (Froz.int .u32)).froz 11) ((((rh_73.froz 2 (by decide)).froz 3 (by decide)).froz 10 (by decide)).toSlF (Froz.int .u32)) r_86 hr_87) ?_
  rintro _ w_94 ⟨col_96, ra_88, rc_89, ra_91, rc_92, rfl, hg_95, rh_90, rh_93⟩
  refine ⟨_, rfl, ?_⟩
  replace rh_90 := rh_90.thaw (flat_int .u32) hg_95 (((((Fz.refl (col := col_79)).froz 2).froz 3).froz 10).froz 11) (by decide)
  replace rh_93 := rh_93.thaw (flat_int .u32) hg_95 (((((Fz.refl (col := col_79)).froz 2).froz 3).froz 10).froz 11) (by decide)
  replace hg_95 := hg_95.thawR (col := col_79)
  generalize colR w_82.heap.size col_79 col_96 = col_97 at *
  obtain ⟨r_98, hr_99, hm⟩ := bS hm
  refine lc rfl rfl (r_call1 Tryz.call66 rfl) (c_frac_Neg N 15 16 (frC 14 (frC 13 col_97)) _ ra_88 rc_89 ra_91 rc_92 ((r_86.1.1, r_86.1.2), r_86.2) ((rh_90.toSlF (Froz.int .u32)).froz 14) ((rh_93.froz 13 (by decide)).toSlF (Froz.int .u32)) r_98 hr_99) ?_
  rintro _ w_106 ⟨col_108, ra_100, rc_101, ra_103, rc_104, rfl, hg_107, rh_102, rh_105⟩
  refine ⟨_, rfl, ?_⟩
  replace rh_102 := rh_102.thaw (flat_int .u32) hg_107 (((Fz.refl (col := col_97)).froz 13).froz 14) (by decide)
  replace rh_105 := rh_105.thaw (flat_int .u32) hg_107 (((Fz.refl (col := col_97)).froz 13).froz 14) (by decide)
  replace hg_107 := hg_107.thawR (col := col_97)
  generalize colR w_94.heap.size col_97 col_108 = col_109 at *
  obtain ⟨r_110, hr_111, hm⟩ := bS hm
  refine lc rfl rfl (r_call1 Tryz.call65 rfl) (c_frac_Floor N 17 (frC 16 (frC 15 col_109)) _ ra_100 rc_101 ra_103 rc_104 ((r_98.1.1, r_98.1.2), r_98.2) ((rh_102.toSlF (Froz.int .u32)).froz 16) ((rh_105.froz 15 (by decide)).toSlF (Froz.int .u32)) r_110 hr_111) ?_
  rintro _ w_115 ⟨col_117, ra_112, rc_113, rfl, hg_116, rh_114⟩
  refine ⟨_, rfl, ?_⟩
  replace rh_114 := rh_114.thaw (flat_int .u32) hg_116 (((Fz.refl (col := col_109)).froz 15).froz 16) (by decide)
  replace hg_116 := hg_116.thawR (col := col_109)
  generalize colR w_106.heap.size col_109 col_117 = col_118 at *
  obtain ⟨r_119, hr_120, hm⟩ := bS hm
  refine lc rfl rfl (r_call1 Tryz.call64 rfl) (c_whole_Neg N 18 (frC 17 col_118) _ ra_112 rc_113 (r_110.1, r_110.2) (rh_114.toSlF (Froz.int .u32)) r_119 hr_120) ?_
  rintro _ w_124 ⟨col_126, ra_121, rc_122, rfl, hg_125, rh_123⟩
  refine ⟨_, rfl, ?_⟩
  replace rh_123 := rh_123.thaw (flat_int .u32) hg_125 ((Fz.refl (col := col_118)).froz 17) (by decide)
  replace hg_125 := hg_125.thawR (col := col_118)
  generalize colR w_115.heap.size col_118 col_126 = col_127 at *
  refine l_lit (col := col_127) (r := (Rep.int .u32)) (xs := [1]) [(.int .u32 1)] 19 rfl Tryz.underlying36 el114_19 rfl rfl rfl rfl rfl rfl (by intro v hv; simp only [List.mem_cons, List.not_mem_nil, or_false] at hv; subst hv; rfl) (RowsH.ofF (Rows.consF (r := (Rep.int .u32)) (x := 1) (cs := [(.int .u32 1)]) (rd_int .u32 1) Rows.nil0)) ?_
  intro a_128 w_129 col_130 hg_131 h_132
  refine lV (.agg #[(.bool r_119.1), (.slice ra_121 r_119.2.length rc_122), (.slice a_128 ([1].length) 1)]) (r_build (l := [_, _]) (qs := [(0, 2), (2, 1)]) Tryz.underlying40 Tryz.zeroValue40 ⟨rfl, Tryz.sizeOf38, rfl, Tryz.sizeOf36, trivial⟩ rfl) ?_
  refine l_alloc (col := col_130) (v := (.agg #[(.bool false), (.slice none (([] : List Int).length) 0), (.slice none (([] : List Int).length) 0)])) 20 rfl Tryz.zeroValue40 ?_
  intro g_133 w_134 col_135 hg_136 hb_137
  replace hb_137 : Box 40 20 col_135 w_134 g_133 #[(.bool false), (.slice none (([] : List Int).length) 0), (.slice none (([] : List Int).length) 0)] := hb_137
  refine l_bstore (v := (.agg #[(.bool r_119.1), (.slice ra_121 r_119.2.length rc_122), (.slice a_128 ([1].length) 1)])) hb_137 Tryz.sizeOf40 rfl rfl (by intro u hu; simp only [Value.cells, List.mem_cons, List.not_mem_nil, or_false] at hu; rcases hu with rfl | rfl | rfl <;> rfl) rfl rfl ?_
  intro w_138 hk_139 hs_140 hb_141
  clear hb_137
  replace hb_141 : Box 40 20 col_135 w_138 g_133 #[(.bool r_119.1), (.slice ra_121 r_119.2.length rc_122), (.slice a_128 ([1].length) 1)] := hb_141
  refine lN (wS ?_)
  refine wmix (col := col_135) [(0, 0), (3, 1), (4, 0), (5, 0), (1, 3), (2, 3), (6, 3), (7, 3), (8, 1)] (by kernel_rfl) (by kernel_rfl) ?_
  refine xv (v := (.agg #[(.bool r_119.1), (.slice ra_121 r_119.2.length rc_122), (.slice a_128 ([1].length) 1)])) rfl rfl (fun _ hC => r_ldN Tryz.isAgg40 Tryz.sizeOf40 rfl rfl (hb_141.atN.gr (Grow.of_below (col := col_135) hC.below))) ?_
  refine xu (v := (.pointer ((some (⟨g_23, 0, none⟩ : Addr)).map (·.add 3)))) rfl rfl (fun _ => rF (sz := 3) (off := 3) Tryz.underlying62 rfl Tryz.sizeOf40 (by decide) rfl rfl ⟨_, _, rfl⟩) ?_
  replace hb_31 := ((((((hb_31.gr hg_95).gr hg_107).gr hg_116).gr hg_125).gr hg_131).gr hg_136).kp hk_139
  refine xv (v := (.agg #[(.bool r_6.1.2.1.1), (.slice ra_14 r_6.1.2.1.2.length rc_15), (.slice ra_17 r_6.1.2.2.length rc_18)])) rfl rfl (fun _ hC => r_ldN Tryz.isAgg40 Tryz.sizeOf40 rfl rfl (((hb_31.atN).part 3 3 _ rfl).gr (Grow.of_below (col := col_135) hC.below))) ?_
  replace hb_85 := ((((((hb_85.gr hg_95).gr hg_107).gr hg_116).gr hg_125).gr hg_131).gr hg_136).kp hk_139
  refine xv (v := (.agg #[(.bool r_66.1.1), (.slice ra_68 r_66.1.2.length rc_69), (.slice ra_71 r_66.2.length rc_72)])) rfl rfl (fun _ hC => r_ldN Tryz.isAgg40 Tryz.sizeOf40 rfl rfl (hb_85.atN.gr (Grow.of_below (col := col_135) hC.below))) ?_
  refine xe rfl rfl ?_
  intro w_142 hC0
  have hC : Grow col_135 w_138 col_135 w_142 := .of_below hC0.below
  obtain ⟨r_143, hr_144, hm⟩ := bS hm
  refine lc rfl rfl (r_call0 Tryz.call67 ) (c_code_one 21 22 col_135 _ r_143 hr_144) ?_
  rintro _ w_151 ⟨col_153, ra_145, rc_146, ra_148, rc_149, rfl, hg_152, rh_147, rh_150⟩
  refine ⟨_, rfl, ?_⟩
  refine lN ⟨fun w' => Grow col_153 w_151 col_153 w', Grow.refl _ _, fun _ _ h => cls hC0 hg_152 h, ?_⟩
  refine xe rfl rfl ?_
  intro w_154 hC0
  replace rh_16 := (((((((((((rh_16.gr hg_75).gr hg_80).kp hk_83).gr hg_95).gr hg_107).gr hg_116).gr hg_125).gr hg_131).gr hg_136).kp hk_139).gr hC).gr hg_152
  replace rh_19 := (((((((((((rh_19.gr hg_75).gr hg_80).kp hk_83).gr hg_95).gr hg_107).gr hg_116).gr hg_125).gr hg_131).gr hg_136).kp hk_139).gr hC).gr hg_152
  replace hst := (((((((((((hst.grow hg_75).grow hg_80).kp hk_83 hs_84).grow hg_95).grow hg_107).grow hg_116).grow hg_125).grow hg_131).grow hg_136).kp hk_139 hs_140).grow hC).grow hg_152
  replace rh_10 := ((((((((rh_10.gr hg_95).gr hg_107).gr hg_116).gr hg_125).gr hg_131).gr hg_136).kp hk_139).gr hC).gr hg_152
  replace rh_13 := ((((((((rh_13.gr hg_95).gr hg_107).gr hg_116).gr hg_125).gr hg_131).gr hg_136).kp hk_139).gr hC).gr hg_152
  replace rh_70 := ((((((((rh_70.gr hg_95).gr hg_107).gr hg_116).gr hg_125).gr hg_131).gr hg_136).kp hk_139).gr hC).gr hg_152
  replace rh_73 := ((((((((rh_73.gr hg_95).gr hg_107).gr hg_116).gr hg_125).gr hg_131).gr hg_136).kp hk_139).gr hC).gr hg_152
  replace rh_123 := ((((rh_123.gr hg_131).gr hg_136).kp hk_139).gr hC).gr hg_152
  replace h_132 := (((h_132.gr hg_136).kp hk_139).gr hC).gr hg_152
  replace hb_31 := (hb_31.gr hC).gr hg_152
  replace hb_141 := (hb_141.gr hC).gr hg_152
  have hC : Grow col_153 w_151 col_153 w_154 := .of_below hC0.below
  obtain ⟨r_155, hr_156, hm⟩ := bS hm
  replace rh_123 := rh_123.gr hC
  replace h_132 := h_132.gr hC
  replace rh_147 := rh_147.gr hC
  replace rh_150 := rh_150.gr hC
  refine lc rfl rfl (r_call2 Tryz.call27 rfl rfl) (c_frac_Add N 23 24 (frC 22 (frC 21 (frC 19 (frC 18 col_153)))) _ ra_121 rc_122 a_128 1 ((r_119.1, r_119.2), [1]) ra_145 rc_146 ra_148 rc_149 ((r_143.1.1, r_143.1.2), r_143.2) ((((rh_123.toSlF (Froz.int .u32)).froz 19).froz 21).froz 22) ((((h_132.froz 18 (by decide)).toSlF (Froz.int .u32)).froz 21).froz 22) ((((rh_147.froz 18 (by decide)).froz 19 (by decide)).toSlF (Froz.int .u32)).froz 22) ((((rh_150.froz 18 (by decide)).froz 19 (by decide)).froz 21 (by decide)).toSlF (Froz.int .u32)) r_155 hr_156) ?_
  rintro _ w_163 ⟨col_165, ra_157, rc_158, ra_160, rc_161, rfl, hg_164, rh_159, rh_162⟩
  refine ⟨_, rfl, ?_⟩
  replace rh_159 := rh_159.thaw (flat_int .u32) hg_164 (((((Fz.refl (col := col_153)).froz 18).froz 19).froz 21).froz 22) (by decide)
  replace rh_162 := rh_162.thaw (flat_int .u32) hg_164 (((((Fz.refl (col := col_153)).froz 18).froz 19).froz 21).froz 22) (by decide)
  replace hg_164 := hg_164.thawR (col := col_153)
  generalize colR w_154.heap.size col_153 col_165 = col_166 at *
  refine lN ⟨fun w' => Grow col_166 w_163 col_166 w', Grow.refl _ _, fun _ _ h => cls hC0 hg_164 h, ?_⟩
  refine xe rfl rfl ?_
  intro w_167 hC0
  replace rh_10 := (rh_10.gr hC).gr hg_164
  replace rh_13 := (rh_13.gr hC).gr hg_164
  replace rh_16 := (rh_16.gr hC).gr hg_164
  replace rh_19 := (rh_19.gr hC).gr hg_164
  replace rh_70 := (rh_70.gr hC).gr hg_164
  replace rh_73 := (rh_73.gr hC).gr hg_164
  replace hb_31 := (hb_31.gr hC).gr hg_164
  replace hb_141 := (hb_141.gr hC).gr hg_164
  replace hst := (hst.grow hC).grow hg_164
  have hC : Grow col_166 w_163 col_166 w_167 := .of_below hC0.below
  obtain ⟨r_168, hr_169, hm⟩ := bS hm
  replace rh_16 := rh_16.gr hC
  replace rh_19 := rh_19.gr hC
  replace rh_70 := rh_70.gr hC
  replace rh_73 := rh_73.gr hC
  refine lc rfl rfl (r_call2 Tryz.call35 rfl rfl) (c_frac_Mul N 25 26 (frC 11 (frC 10 (frC 5 (frC 4 col_166)))) _ ra_14 rc_15 ra_17 rc_18 ((r_6.1.2.1.1, r_6.1.2.1.2), r_6.1.2.2) ra_68 rc_69 ra_71 rc_72 ((r_66.1.1, r_66.1.2), r_66.2) ((((rh_16.toSlF (Froz.int .u32)).froz 5).froz 10).froz 11) ((((rh_19.froz 4 (by decide)).toSlF (Froz.int .u32)).froz 10).froz 11) ((((rh_70.froz 4 (by decide)).froz 5 (by decide)).toSlF (Froz.int .u32)).froz 11) ((((rh_73.froz 4 (by decide)).froz 5 (by decide)).froz 10 (by decide)).toSlF (Froz.int .u32)) r_168 hr_169) ?_
  rintro _ w_176 ⟨col_178, ra_170, rc_171, ra_173, rc_174, rfl, hg_177, rh_172, rh_175⟩
  refine ⟨_, rfl, ?_⟩
  replace rh_172 := rh_172.thaw (flat_int .u32) hg_177 (((((Fz.refl (col := col_166)).froz 4).froz 5).froz 10).froz 11) (by decide)
  replace rh_175 := rh_175.thaw (flat_int .u32) hg_177 (((((Fz.refl (col := col_166)).froz 4).froz 5).froz 10).froz 11) (by decide)
  replace hg_177 := hg_177.thawR (col := col_166)
  generalize colR w_167.heap.size col_166 col_178 = col_179 at *
  refine lN ⟨fun w' => Grow col_179 w_176 col_179 w', Grow.refl _ _, fun _ _ h => cls hC0 hg_177 h, ?_⟩
  refine xe rfl rfl ?_
  intro w_180 hC0
  replace rh_123 := ((rh_123.gr hg_164).gr hC).gr hg_177
  replace rh_10 := (rh_10.gr hC).gr hg_177
  replace rh_13 := (rh_13.gr hC).gr hg_177
  replace rh_159 := (rh_159.gr hC).gr hg_177
  replace rh_162 := (rh_162.gr hC).gr hg_177
  replace hb_31 := (hb_31.gr hC).gr hg_177
  replace hb_141 := (hb_141.gr hC).gr hg_177
  replace hst := (hst.grow hC).grow hg_177
  have hC : Grow col_179 w_176 col_179 w_180 := .of_below hC0.below
  obtain ⟨r_181, hr_182, hm⟩ := bS hm
  replace rh_159 := rh_159.gr hC
  replace rh_162 := rh_162.gr hC
  replace rh_172 := rh_172.gr hC
  replace rh_175 := rh_175.gr hC
  refine lc rfl rfl (r_call2 Tryz.call43 rfl rfl) (c_frac_Cmp N (frC 26 (frC 25 (frC 24 (frC 23 col_179)))) _ ra_157 rc_158 ra_160 rc_161 ((r_155.1.1, r_155.1.2), r_155.2) ra_170 rc_171 ra_173 rc_174 ((r_168.1.1, r_168.1.2), r_168.2) ((((rh_159.toSlF (Froz.int .u32)).froz 24).froz 25).froz 26) ((((rh_162.froz 23 (by decide)).toSlF (Froz.int .u32)).froz 25).froz 26) ((((rh_172.froz 23 (by decide)).froz 24 (by decide)).toSlF (Froz.int .u32)).froz 26) ((((rh_175.froz 23 (by decide)).froz 24 (by decide)).froz 25 (by decide)).toSlF (Froz.int .u32)) r_181 hr_182) ?_
  rintro _ w_183 ⟨rfl, hg_184⟩
  refine ⟨_, rfl, ?_⟩
  replace hg_184 : Grow col_179 w_180 col_179 w_183 := .of_below hg_184
  refine lN ⟨fun w' => Grow col_179 w_183 col_179 w', Grow.refl _ _, fun _ _ h => cls hC0 hg_184 h, ?_⟩
  refine xu (v := (.bool (decide (r_181 ≤ 0)))) rfl rfl (fun _ => r_leq r_181 0 rfl rfl) ?_
  refine xnil ?_
  replace rh_16 := ((rh_16.gr hg_177).gr hC).gr hg_184
  replace rh_19 := ((rh_19.gr hg_177).gr hC).gr hg_184
  replace rh_10 := (rh_10.gr hC).gr hg_184
  replace rh_13 := (rh_13.gr hC).gr hg_184
  replace rh_123 := (rh_123.gr hC).gr hg_184
  replace hb_31 := (hb_31.gr hC).gr hg_184
  replace hb_141 := (hb_141.gr hC).gr hg_184
  replace hst := (hst.grow hC).grow hg_184
  intro w_185 hC
  replace hC : Grow col_179 w_183 col_179 w_185 := .of_below hC.below
  replace rh_10 := rh_10.gr hC
  replace rh_13 := rh_13.gr hC
  replace rh_16 := rh_16.gr hC
  replace rh_19 := rh_19.gr hC
  replace rh_123 := rh_123.gr hC
  replace hb_31 := hb_31.gr hC
  replace hb_141 := hb_141.gr hC
  replace hst := hst.grow hC
  refine wcond (decide (r_181 ≤ 0)) rfl (fun hb => ?_) (fun hb => ?_)
  ·rw [if_pos hb] at hm
   clear hb
   refine wS (wR ?_)
   refine lV (.pointer ((some (⟨g_133, 0, none⟩ : Addr)).map (·.add 0))) (rF (sz := 2) (off := 0) Tryz.underlying40 rfl Tryz.sizeOf38 (by decide) rfl rfl ⟨_, _, rfl⟩) ?_
   refine lv (v := (.pointer (((some (⟨g_133, 0, none⟩ : Addr)).map (·.add 0)).map (·.add 1)))) rfl rfl (rF (sz := 1) (off := 1) Tryz.underlying38 rfl Tryz.sizeOf36 (by decide) rfl rfl (sptr_addr ⟨_, _, rfl⟩)) ?_
   refine lV (.slice ra_121 r_119.2.length rc_122) (r_ld Tryz.isAgg36 rfl ((((hb_141.atN).part 0 2 _ rfl)).nth (q := 1) (v := (.slice ra_121 r_119.2.length rc_122)) rfl)) ?_
   refine lM (.int .i64 k_65) ?_
   obtain ⟨r_186, hr_187, hm⟩ := bS hm
   refine lc rfl rfl (r_call2 Tryz.call68 rfl rfl) (c_code_digits N (frC 18 col_179) _ ra_121 rc_122 r_119.2 k_65 (rh_123.toSlF (Froz.int .u32)) r_186 hr_187) ?_
   rintro _ w_188 ⟨rfl, hg_189⟩
   refine ⟨_, rfl, ?_⟩
   replace hg_189 : Grow col_179 w_185 col_179 w_188 := .of_below hg_189
   refine lA (.string r_186) ?_
   refine lA (.int .i64 0) ?_
   refine lN ?_
   refine wret ?_
   cases hm
   replace hst := hst.grow hg_189
   exact ⟨rfl, rfl, hst.below⟩
  rw [if_neg (by rw [hb]; decide)] at hm
  clear hb
  refine wK (wR ?_)
  refine lM (.int .i64 k_65) ?_
  refine lV (.int .i64 (IntKind.i64.wrap (k_65 + 1))) (r_add k_65 1 rfl rfl) ?_
  refine lA (.int .i64 (IntKind.i64.wrap (k_65 + 1))) ?_
  refine lN ?_
  exact ⟨n_62, by omega, ⟨col_179, (IntKind.i64.wrap (k_65 + 1)), n_62, rfl, hm, hst, rh_10, rh_13, rh_16, rh_19, hb_31, rfl, rfl, rfl⟩⟩
def m_code_within (p0_s : (((Bool × (List Int)) × (List Int)) × ((Bool × (List Int)) × (List Int)))) : Option (((Bool × (List Int)) × (List Int)) × ((Bool × (List Int)) × (List Int))) :=
  some ((((p0_s.1.1.1, p0_s.1.1.2), p0_s.1.2), ((p0_s.2.1.1, p0_s.2.1.2), p0_s.2.2)))
theorem c_code_within (c1 : Nat) (col : Col) (w0 : World) (a0_0 : Option Addr) (cap0_0 : Nat) (a0_2 : Option Addr) (cap0_2 : Nat) (a0_4 : Option Addr) (cap0_4 : Nat) (a0_6 : Option Addr) (cap0_6 : Nat) (p0_s : (((Bool × (List Int)) × (List Int)) × ((Bool × (List Int)) × (List Int)))) (h0_0 : Sl (Rep.int .u32) col w0 a0_0 cap0_0 p0_s.1.1.2) (h0_2 : Sl (Rep.int .u32) col w0 a0_2 cap0_2 p0_s.1.2) (h0_4 : Sl (Rep.int .u32) col w0 a0_4 cap0_4 p0_s.2.1.2) (h0_6 : Sl (Rep.int .u32) col w0 a0_6 cap0_6 p0_s.2.2) (r : (((Bool × (List Int)) × (List Int)) × ((Bool × (List Int)) × (List Int)))) (hm : m_code_within p0_s = some r) :
    Calls Tryz.prog 72 #[(.agg #[(.bool p0_s.1.1.1), (.slice a0_0 p0_s.1.1.2.length cap0_0), (.slice a0_2 p0_s.1.2.length cap0_2), (.bool p0_s.2.1.1), (.slice a0_4 p0_s.2.1.2.length cap0_4), (.slice a0_6 p0_s.2.2.length cap0_6)])] w0 (fun e w' => ∃ (col' : Col) (rg1 : Nat) (ra3 : Option Addr) (rc4 : Nat) (ra6 : Option Addr) (rc7 : Nat) (ra9 : Option Addr) (rc10 : Nat) (ra12 : Option Addr) (rc13 : Nat), e = .returned ((.func (.func 124) #[] #[(.pointer (some ⟨rg1, 0, none⟩))])) ∧ Grow col w0 col' w' ∧ Box 62 c1 col' w' rg1 #[(.bool r.1.1.1), (.slice ra3 r.1.1.2.length rc4), (.slice ra6 r.1.2.length rc7), (.bool r.2.1.1), (.slice ra9 r.2.1.2.length rc10), (.slice ra12 r.2.2.length rc13)] ∧ Sl (Rep.int .u32) col' w' ra3 rc4 r.1.1.2 ∧ Sl (Rep.int .u32) col' w' ra6 rc7 r.1.2 ∧ Sl (Rep.int .u32) col' w' ra9 rc10 r.2.1.2 ∧ Sl (Rep.int .u32) col' w' ra12 rc13 r.2.2) := by
 refine calls_of1 2 (m := 4) (args := [(.agg #[(.bool p0_s.1.1.1), (.slice a0_0 p0_s.1.1.2.length cap0_0), (.slice a0_2 p0_s.1.2.length cap0_2), (.bool p0_s.2.1.1), (.slice a0_4 p0_s.2.1.2.length cap0_4), (.slice a0_6 p0_s.2.2.length cap0_6)])]) Tryz.func72 rfl rfl rfl rfl rfl ?_
 rw [m_code_within.eq_1] at hm
 have hst := St.start col w0
 refine wS (wR ?_)
 refine l_box (col := (col0 col)) (v := (.agg #[(.bool p0_s.1.1.1), (.slice a0_0 p0_s.1.1.2.length cap0_0), (.slice a0_2 p0_s.1.2.length cap0_2), (.bool p0_s.2.1.1), (.slice a0_4 p0_s.2.1.2.length cap0_4), (.slice a0_6 p0_s.2.2.length cap0_6)])) 1 rfl rfl ?_
 intro g_1 w_2 col_3 hg_4 hb_5
 replace hb_5 : Box 62 1 col_3 w_2 g_1 #[(.bool p0_s.1.1.1), (.slice a0_0 p0_s.1.1.2.length cap0_0), (.slice a0_2 p0_s.1.2.length cap0_2), (.bool p0_s.2.1.1), (.slice a0_4 p0_s.2.1.2.length cap0_4), (.slice a0_6 p0_s.2.2.length cap0_6)] := hb_5
 refine lv (v := _) rfl rfl (r_assign rfl) ?_
 refine lN (wS (wR ?_))
 refine lV (.func (.func 124) #[] #[(.pointer (some ⟨g_1, 0, none⟩))]) (r_func1 rfl) ?_
 refine lA (.func (.func 124) #[] #[(.pointer (some ⟨g_1, 0, none⟩))]) ?_
 refine lN ?_
 refine wret ?_
 cases hm
 replace h0_0 := (h0_0.keep (Stay.start col w0)).gr hg_4
 replace h0_2 := (h0_2.keep (Stay.start col w0)).gr hg_4
 replace h0_4 := (h0_4.keep (Stay.start col w0)).gr hg_4
 replace h0_6 := (h0_6.keep (Stay.start col w0)).gr hg_4
 replace hst := hst.grow hg_4
 exact ⟨rfl, colF w0.heap.size col col_3 (fun n => bif Nat.beq n 1 then c1 else 0), g_1, a0_0, cap0_0, a0_2, cap0_2, a0_4, cap0_4, a0_6, cap0_6, rfl, hst.fin (fun n => bif Nat.beq n 1 then c1 else 0), hst.finBox (G := (fun n => bif Nat.beq n 1 then c1 else 0)) hb_5 (by decide) (by decide) rfl, hst.finSl (g := (fun n => bif Nat.beq n 1 then c1 else 0)) rfl h0_0, hst.finSl (g := (fun n => bif Nat.beq n 1 then c1 else 0)) rfl h0_2, hst.finSl (g := (fun n => bif Nat.beq n 1 then c1 else 0)) rfl h0_4, hst.finSl (g := (fun n => bif Nat.beq n 1 then c1 else 0)) rfl h0_6⟩
def m_code_within_1_v2sssss_J1 (k_1 : Nat) (kk_L1 : (Nat → Option Int)) : Option Int :=
  kk_L1 (k_1 + 1)
def m_code_within_1_v2sssss_J2 (k_1 : Nat) (kk_L1 : (Nat → Option Int)) (v_72 : Bool) : Option Int :=
  if v_72 = true then (some (k_1 : Int)) else (m_code_within_1_v2sssss_J1 k_1 kk_L1)
def m_code_within_1_v2sssss_L1 (N : Nat) (p2_v : (((Bool × (List Int)) × (List Int)) × ((Bool × (List Int)) × (List Int)))) : List (((Bool × (List Int)) × (List Int)) × ((Bool × (List Int)) × (List Int))) → Nat → Option Int
  | [], k_1 => some (-1)
  | x_5 :: l_6, k_1 => (m_frac_Cmp N ((x_5.1.1.1, x_5.1.1.2), x_5.1.2) ((p2_v.1.1.1, p2_v.1.1.2), p2_v.1.2)).bind fun r_73 => if (decide (r_73 ≤ 0)) = true then ((m_frac_Cmp N ((p2_v.2.1.1, p2_v.2.1.2), p2_v.2.2) ((x_5.2.1.1, x_5.2.1.2), x_5.2.2)).bind fun r_78 => if (decide (r_78 ≤ 0)) = true then ((m_frac_Cmp N ((x_5.1.1.1, x_5.1.1.2), x_5.1.2) ((x_5.2.1.1, x_5.2.1.2), x_5.2.2)).bind fun r_83 => m_code_within_1_v2sssss_J2 k_1 (m_code_within_1_v2sssss_L1 N p2_v l_6) (decide (r_83 < 0))) else (m_code_within_1_v2sssss_J2 k_1 (m_code_within_1_v2sssss_L1 N p2_v l_6) false)) else (m_code_within_1_v2sssss_J2 k_1 (m_code_within_1_v2sssss_L1 N p2_v l_6) false)
termination_by structural x => x
def m_code_within_1_v2sssss (N : Nat) (p0_v : Int) (p1_parts : (List (((Bool × (List Int)) × (List Int)) × ((Bool × (List Int)) × (List Int))))) (p2_v : (((Bool × (List Int)) × (List Int)) × ((Bool × (List Int)) × (List Int)))) : Option Int :=
  m_code_within_1_v2sssss_L1 N p2_v p1_parts 0
theorem c_code_within_1_v2sssss (N : Nat) (col : Col) (w0 : World) (qc2 : Nat) (hqqc2 : qc2 ≠ 0) (p0_v : Int) (a1 : Option Addr) (cap1 : Nat) (p1_parts : (List (((Bool × (List Int)) × (List Int)) × ((Bool × (List Int)) × (List Int))))) (g2 : Nat) (p2_v : (((Bool × (List Int)) × (List Int)) × ((Bool × (List Int)) × (List Int)))) (a2_2 : Option Addr) (cap2_2 : Nat) (a2_4 : Option Addr) (cap2_4 : Nat) (a2_6 : Option Addr) (cap2_6 : Nat) (a2_8 : Option Addr) (cap2_8 : Nat) (h1 : Sl (Rep.pair (Rep.pair (Rep.pair Rep.bool (Rep.slice (Rep.int .u32))) (Rep.slice (Rep.int .u32))) (Rep.pair (Rep.pair Rep.bool (Rep.slice (Rep.int .u32))) (Rep.slice (Rep.int .u32)))) col w0 a1 cap1 p1_parts) (h2_2 : Sl (Rep.int .u32) col w0 a2_2 cap2_2 p2_v.1.1.2) (h2_4 : Sl (Rep.int .u32) col w0 a2_4 cap2_4 p2_v.1.2) (h2_6 : Sl (Rep.int .u32) col w0 a2_6 cap2_6 p2_v.2.1.2) (h2_8 : Sl (Rep.int .u32) col w0 a2_8 cap2_8 p2_v.2.2) (hb2 : Box 62 qc2 col w0 g2 #[(.bool p2_v.1.1.1), (.slice a2_2 p2_v.1.1.2.length cap2_2), (.slice a2_4 p2_v.1.2.length cap2_4), (.bool p2_v.2.1.1), (.slice a2_6 p2_v.2.1.2.length cap2_6), (.slice a2_8 p2_v.2.2.length cap2_8)]) (r : Int) (hm : m_code_within_1_v2sssss N p0_v p1_parts p2_v = some r) :
    Calls Tryz.prog 124 #[(.int .i64 p0_v), (.slice a1 p1_parts.length cap1), (.pointer (some ⟨g2, 0, none⟩))] w0 (fun e w' => e = .returned ((.int .i64 r)) ∧ Below w0.heap.size w0 w') := by
 refine calls_of1 5 (m := 39) (args := [(.int .i64 p0_v), (.slice a1 p1_parts.length cap1), (.pointer (some ⟨g2, 0, none⟩))]) Tryz.func124 rfl rfl rfl rfl rfl ?_
 rw [m_code_within_1_v2sssss.eq_1] at hm
 have hst := St.start col w0
 replace hb2 := hb2.start0 hqqc2
 refine wS (wR ?_)
 refine lA (.int .i64 0) ?_
 refine lN (wS (wS (wR ?_)))
 refine lM (.slice a1 p1_parts.length cap1) ?_
 refine lV (.int .i64 (p1_parts.length : Int)) (r_len Tryz.underlying124 rfl) ?_
 refine lM (.int .i64 0) ?_
 refine lN (wB ?_)
 replace h1 := h1.keep (Stay.start col w0)
 replace h2_2 := h2_2.keep (Stay.start col w0)
 replace h2_4 := h2_4.keep (Stay.start col w0)
 replace h2_6 := h2_6.keep (Stay.start col w0)
 replace h2_8 := h2_8.keep (Stay.start col w0)
 refine wloop (fun n f w_3 => ∃ (col_4 : Col) (k_1 : Nat) (l_2 : List (((Bool × (List Int)) × (List Int)) × ((Bool × (List Int)) × (List Int)))), n = l_2.length ∧ p1_parts.drop k_1 = l_2 ∧ m_code_within_1_v2sssss_L1 N p2_v l_2 k_1 = some r ∧ St w0 (col0 col) col_4 w_3 ∧ Sl (Rep.int .u32) col_4 w_3 a2_2 cap2_2 p2_v.1.1.2 ∧ Sl (Rep.int .u32) col_4 w_3 a2_4 cap2_4 p2_v.1.2 ∧ Sl (Rep.int .u32) col_4 w_3 a2_6 cap2_6 p2_v.2.1.2 ∧ Sl (Rep.int .u32) col_4 w_3 a2_8 cap2_8 p2_v.2.2 ∧ Box 62 999 col_4 w_3 g2 #[(.bool p2_v.1.1.1), (.slice a2_2 p2_v.1.1.2.length cap2_2), (.slice a2_4 p2_v.1.2.length cap2_4), (.bool p2_v.2.1.1), (.slice a2_6 p2_v.2.1.2.length cap2_6), (.slice a2_8 p2_v.2.2.length cap2_8)] ∧ Sl (Rep.pair (Rep.pair (Rep.pair Rep.bool (Rep.slice (Rep.int .u32))) (Rep.slice (Rep.int .u32))) (Rep.pair (Rep.pair Rep.bool (Rep.slice (Rep.int .u32))) (Rep.slice (Rep.int .u32)))) col_4 w_3 a1 cap1 p1_parts ∧ f 10 = (.int .i64 (k_1 : Int)) ∧ f 2 = (.pointer (some ⟨g2, 0, none⟩)) ∧ f 8 = (.slice a1 p1_parts.length cap1) ∧ f 9 = (.int .i64 (p1_parts.length : Int)) ∧ f 1000000 = (enc [])) p1_parts.length ⟨(col0 col), 0, p1_parts, rfl, rfl, hm, hst, h2_2, h2_4, h2_6, h2_8, hb2, h1, rfl, rfl, rfl, rfl, rfl⟩ ?_
 clear hm; intro n f w_3 hI
 obtain ⟨col_4, k_1, l_2, hn, hl, hm, hst, h2_2, h2_4, h2_6, h2_8, hb2, h1, hs10, hs2, hs8, hs9, hs1000000⟩ := hI
 subst hn
 refine .lD 10 hs10 ?_
 refine .lD 2 hs2 ?_
 refine .lD 8 hs8 ?_
 refine .lD 9 hs9 ?_
 refine .lD 1000000 hs1000000 ?_
 clear hs10 hs2 hs8 hs9 hs1000000
 cases l_2 with
 | nil =>
  have hk : ¬ ((k_1 : Int) < (p1_parts.length : Int)) := by have := List.drop_eq_nil_iff.1 hl; omega
  have hkb := decide_eq_false hk
  rw [m_code_within_1_v2sssss_L1.eq_1] at hm
  refine wS (wR ?_)
  refine lV (.bool (decide ((k_1 : Int) < (p1_parts.length : Int)))) (r_lss (k_1 : Int) (p1_parts.length : Int) rfl rfl) ?_
  refine lN (wS ?_)
  refine wcondF (congrArg Value.bool hkb) ?_
  refine wexit (inB_hit ?_)
  refine wS (wR ?_)
  refine lA (.int .i64 (-1)) ?_
  refine lN ?_
  refine wret ?_
  cases hm
  exact ⟨rfl, rfl, hst.below⟩
 | cons x_5 l_6 =>
  obtain ⟨hat, hl2_L1, hlt_L1⟩ := drop_get hl
  have hk : (k_1 : Int) < (p1_parts.length : Int) := by omega
  have hkb := decide_eq_true hk
  rw [m_code_within_1_v2sssss_L1.eq_2] at hm
  refine wS (wR ?_)
  refine lV (.bool (decide ((k_1 : Int) < (p1_parts.length : Int)))) (r_lss (k_1 : Int) (p1_parts.length : Int) rfl rfl) ?_
  refine lN (wS ?_)
  refine wcondT (congrArg Value.bool hkb) ?_
  refine wK (wS ?_)
  refine Wp.cut (fun f w_7 => ∃ (col_8 : Col), m_code_within_1_v2sssss_J1 k_1 (m_code_within_1_v2sssss_L1 N p2_v l_6)  = some r ∧ St w0 (col0 col) col_8 w_7 ∧ Sl (Rep.int .u32) col_8 w_7 a2_2 cap2_2 p2_v.1.1.2 ∧ Sl (Rep.int .u32) col_8 w_7 a2_4 cap2_4 p2_v.1.2 ∧ Sl (Rep.int .u32) col_8 w_7 a2_6 cap2_6 p2_v.2.1.2 ∧ Sl (Rep.int .u32) col_8 w_7 a2_8 cap2_8 p2_v.2.2 ∧ Box 62 999 col_8 w_7 g2 #[(.bool p2_v.1.1.1), (.slice a2_2 p2_v.1.1.2.length cap2_2), (.slice a2_4 p2_v.1.2.length cap2_4), (.bool p2_v.2.1.1), (.slice a2_6 p2_v.2.1.2.length cap2_6), (.slice a2_8 p2_v.2.2.length cap2_8)] ∧ Sl (Rep.pair (Rep.pair (Rep.pair Rep.bool (Rep.slice (Rep.int .u32))) (Rep.slice (Rep.int .u32))) (Rep.pair (Rep.pair Rep.bool (Rep.slice (Rep.int .u32))) (Rep.slice (Rep.int .u32)))) col_8 w_7 a1 cap1 p1_parts ∧ f 10 = (.int .i64 (k_1 : Int)) ∧ f 2 = (.pointer (some ⟨g2, 0, none⟩)) ∧ f 8 = (.slice a1 p1_parts.length cap1) ∧ f 9 = (.int .i64 (p1_parts.length : Int)) ∧ f 1000000 = (enc [])) ?_ ?_
  ·intro f w_7 hJ
   obtain ⟨col_8, hm, hst, h2_2, h2_4, h2_6, h2_8, hb2, h1, hs10, hs2, hs8, hs9, hs1000000⟩ := hJ
   rw [m_code_within_1_v2sssss_J1.eq_1] at hm
   refine .lD 10 hs10 ?_
   refine .lD 2 hs2 ?_
   refine .lD 8 hs8 ?_
   refine .lD 9 hs9 ?_
   refine .lD 1000000 hs1000000 ?_
   clear hs10 hs2 hs8 hs9 hs1000000
   refine wR ?_
   refine lV (.int .i64 (IntKind.i64.wrap ((k_1 : Int) + 1))) (r_add (k_1 : Int) 1 rfl rfl) ?_
   refine lM (.int .i64 (IntKind.i64.wrap ((k_1 : Int) + 1))) ?_
   refine lN ?_
   exact ⟨l_6.length, by simp, ⟨col_8, (k_1 + 1), l_6, rfl, hl2_L1, hm, hst, h2_2, h2_4, h2_6, h2_8, hb2, h1, (congrArg (Value.int .i64) (wrap_succ (Nat.lt_of_lt_of_le hlt_L1 h1.1.1))), rfl, rfl, rfl, rfl⟩⟩
  refine wB (wS (wR ?_))
  refine lM (.int .i64 (k_1 : Int)) ?_
  refine lV (sptr a1 (Int.toNat (k_1 : Int) * 6)) (r_idx Tryz.underlying124 Tryz.sizeOf62 rfl rfl (at?_some hat).1 (at?_some hat).2.1 (h1.addr hat)) ?_
  obtain ⟨_, hr_9, hA_10⟩ := h1.atN hat
  obtain ⟨_, _, rfl, hp_11, hp_12⟩ := rd_pair hr_9
  obtain ⟨_, _, rfl, hp_13, hp_14⟩ := rd_pair hp_11
  obtain ⟨_, _, rfl, hp_15, hp_16⟩ := rd_pair hp_13
  obtain ⟨rfl, _⟩ := hp_15
  obtain ⟨⟨a_17, cap_18, rfl, h_19⟩, _⟩ := hp_16
  obtain ⟨⟨a_20, cap_21, rfl, h_22⟩, _⟩ := hp_14
  obtain ⟨_, _, rfl, hp_23, hp_24⟩ := rd_pair hp_12
  obtain ⟨_, _, rfl, hp_25, hp_26⟩ := rd_pair hp_23
  obtain ⟨rfl, _⟩ := hp_25
  obtain ⟨⟨a_27, cap_28, rfl, h_29⟩, _⟩ := hp_26
  obtain ⟨⟨a_30, cap_31, rfl, h_32⟩, _⟩ := hp_24
  refine lV (.agg #[(.bool x_5.1.1.1), (.slice a_17 x_5.1.1.2.length cap_18), (.slice a_20 x_5.1.2.length cap_21), (.bool x_5.2.1.1), (.slice a_27 x_5.2.1.2.length cap_28), (.slice a_30 x_5.2.2.length cap_31)]) (r_ldN Tryz.isAgg62 Tryz.sizeOf62 rfl rfl hA_10) ?_
  refine l_alloc (col := col_4) (v := (.agg #[(.bool false), (.slice none (([] : List Int).length) 0), (.slice none (([] : List Int).length) 0), (.bool false), (.slice none (([] : List Int).length) 0), (.slice none (([] : List Int).length) 0)])) 1 rfl Tryz.zeroValue62 ?_
  intro g_33 w_34 col_35 hg_36 hb_37
  replace hb_37 : Box 62 1 col_35 w_34 g_33 #[(.bool false), (.slice none (([] : List Int).length) 0), (.slice none (([] : List Int).length) 0), (.bool false), (.slice none (([] : List Int).length) 0), (.slice none (([] : List Int).length) 0)] := hb_37
  refine lA (.int .i64 (k_1 : Int)) ?_
  refine l_bstore (v := (.agg #[(.bool x_5.1.1.1), (.slice a_17 x_5.1.1.2.length cap_18), (.slice a_20 x_5.1.2.length cap_21), (.bool x_5.2.1.1), (.slice a_27 x_5.2.1.2.length cap_28), (.slice a_30 x_5.2.2.length cap_31)])) hb_37 Tryz.sizeOf62 rfl rfl (by intro u hu; simp only [Value.cells, List.mem_cons, List.not_mem_nil, or_false] at hu; rcases hu with rfl | rfl | rfl | rfl | rfl | rfl <;> rfl) rfl rfl ?_
  intro w_38 hk_39 hs_40 hb_41
  clear hb_37
  replace hb_41 : Box 62 1 col_35 w_38 g_33 #[(.bool x_5.1.1.1), (.slice a_17 x_5.1.1.2.length cap_18), (.slice a_20 x_5.1.2.length cap_21), (.bool x_5.2.1.1), (.slice a_27 x_5.2.1.2.length cap_28), (.slice a_30 x_5.2.2.length cap_31)] := hb_41
  refine lN (wS ?_)
  replace h2_2 := (h2_2.gr hg_36).kp hk_39
  replace h2_4 := (h2_4.gr hg_36).kp hk_39
  replace h2_6 := (h2_6.gr hg_36).kp hk_39
  replace h2_8 := (h2_8.gr hg_36).kp hk_39
  replace h1 := (h1.gr hg_36).kp hk_39
  replace h_19 := (h_19.gr hg_36).kp hk_39
  replace h_22 := (h_22.gr hg_36).kp hk_39
  replace h_29 := (h_29.gr hg_36).kp hk_39
  replace h_32 := (h_32.gr hg_36).kp hk_39
  replace hb2 := (hb2.gr hg_36).kp hk_39
  replace hst := (hst.grow hg_36).kp hk_39 hs_40
  refine Wp.cut (fun f w_70 => ∃ (col_71 : Col) (v_72 : Bool), m_code_within_1_v2sssss_J2 k_1 (m_code_within_1_v2sssss_L1 N p2_v l_6) v_72 = some r ∧ St w0 (col0 col) col_71 w_70 ∧ Sl (Rep.int .u32) col_71 w_70 a2_2 cap2_2 p2_v.1.1.2 ∧ Sl (Rep.int .u32) col_71 w_70 a2_4 cap2_4 p2_v.1.2 ∧ Sl (Rep.int .u32) col_71 w_70 a2_6 cap2_6 p2_v.2.1.2 ∧ Sl (Rep.int .u32) col_71 w_70 a2_8 cap2_8 p2_v.2.2 ∧ Box 62 999 col_71 w_70 g2 #[(.bool p2_v.1.1.1), (.slice a2_2 p2_v.1.1.2.length cap2_2), (.slice a2_4 p2_v.1.2.length cap2_4), (.bool p2_v.2.1.1), (.slice a2_6 p2_v.2.1.2.length cap2_6), (.slice a2_8 p2_v.2.2.length cap2_8)] ∧ Sl (Rep.pair (Rep.pair (Rep.pair Rep.bool (Rep.slice (Rep.int .u32))) (Rep.slice (Rep.int .u32))) (Rep.pair (Rep.pair Rep.bool (Rep.slice (Rep.int .u32))) (Rep.slice (Rep.int .u32)))) col_71 w_70 a1 cap1 p1_parts ∧ f 10 = (.int .i64 (k_1 : Int)) ∧ f 2 = (.pointer (some ⟨g2, 0, none⟩)) ∧ f 36 = (.bool v_72) ∧ f 6 = (.int .i64 (k_1 : Int)) ∧ f 8 = (.slice a1 p1_parts.length cap1) ∧ f 9 = (.int .i64 (p1_parts.length : Int)) ∧ f 1000000 = (enc [])) ?_ ?_
  ·intro f w_70 hJ
   obtain ⟨col_71, v_72, hm, hst, h2_2, h2_4, h2_6, h2_8, hb2, h1, hs10, hs2, hs36, hs6, hs8, hs9, hs1000000⟩ := hJ
   rw [m_code_within_1_v2sssss_J2.eq_1] at hm
   refine .lD 10 hs10 ?_
   refine .lD 2 hs2 ?_
   refine .lD 36 hs36 ?_
   refine .lD 6 hs6 ?_
   refine .lD 8 hs8 ?_
   refine .lD 9 hs9 ?_
   refine .lD 1000000 hs1000000 ?_
   clear hs10 hs2 hs36 hs6 hs8 hs9 hs1000000
   refine wcond (v_72) rfl (fun hb => ?_) (fun hb => ?_)
   ·rw [if_pos hb] at hm
    clear hb
    refine wS (wR ?_)
    refine lM (.int .i64 (k_1 : Int)) ?_
    refine lA (.int .i64 (k_1 : Int)) ?_
    refine lN ?_
    refine wret ?_
    cases hm
    exact ⟨rfl, rfl, hst.below⟩
   rw [if_neg (by rw [hb]; decide)] at hm
   clear hb
   refine wK ?_
   exact ⟨col_71, hm, hst, h2_2, h2_4, h2_6, h2_8, hb2, h1, rfl, rfl, rfl, rfl, rfl⟩
  refine wR ?_
  refine lV (.pointer ((some (⟨g_33, 0, none⟩ : Addr)).map (·.add 0))) (rF (sz := 3) (off := 0) Tryz.underlying62 rfl Tryz.sizeOf40 (by decide) rfl rfl ⟨_, _, rfl⟩) ?_
  refine lV (.agg #[(.bool x_5.1.1.1), (.slice a_17 x_5.1.1.2.length cap_18), (.slice a_20 x_5.1.2.length cap_21)]) (r_ldN Tryz.isAgg40 Tryz.sizeOf40 rfl rfl ((hb_41.atN).part 0 3 _ rfl)) ?_
  refine lV (.pointer ((some (⟨g2, 0, none⟩ : Addr)).map (·.add 0))) (rF (sz := 3) (off := 0) Tryz.underlying62 rfl Tryz.sizeOf40 (by decide) rfl rfl ⟨_, _, rfl⟩) ?_
  refine lV (.agg #[(.bool p2_v.1.1.1), (.slice a2_2 p2_v.1.1.2.length cap2_2), (.slice a2_4 p2_v.1.2.length cap2_4)]) (r_ldN Tryz.isAgg40 Tryz.sizeOf40 rfl rfl ((hb2.atN).part 0 3 _ rfl)) ?_
  obtain ⟨r_73, hr_74, hm⟩ := bS hm
  refine lc rfl rfl (r_call2 Tryz.call43 rfl rfl) (c_frac_Cmp N col_35 _ a_17 cap_18 a_20 cap_21 ((x_5.1.1.1, x_5.1.1.2), x_5.1.2) a2_2 cap2_2 a2_4 cap2_4 ((p2_v.1.1.1, p2_v.1.1.2), p2_v.1.2) h_19 h_22 h2_2 h2_4 r_73 hr_74) ?_
  rintro _ w_75 ⟨rfl, hg_76⟩
  refine ⟨_, rfl, ?_⟩
  replace hg_76 : Grow col_35 w_38 col_35 w_75 := .of_below hg_76
  refine lV (.bool (decide (r_73 ≤ 0))) (r_leq r_73 0 rfl rfl) ?_
  refine lM (.bool (decide (r_73 ≤ 0))) ?_
  replace h2_2 := h2_2.gr hg_76
  replace h2_4 := h2_4.gr hg_76
  replace h2_6 := h2_6.gr hg_76
  replace h2_8 := h2_8.gr hg_76
  replace h1 := h1.gr hg_76
  replace h_19 := h_19.gr hg_76
  replace h_22 := h_22.gr hg_76
  replace h_29 := h_29.gr hg_76
  replace h_32 := h_32.gr hg_76
  replace hb2 := hb2.gr hg_76
  replace hb_41 := hb_41.gr hg_76
  replace hst := hst.grow hg_76
  by_cases hg_77 : (decide (r_73 ≤ 0)) = true
  ·rw [if_pos hg_77] at hm
   refine lg (b := decide (r_73 ≤ 0)) 21 rfl rfl rfl (by rw [hg_77]; rfl) ?_
   refine lV (.pointer ((some (⟨g2, 0, none⟩ : Addr)).map (·.add 3))) (rF (sz := 3) (off := 3) Tryz.underlying62 rfl Tryz.sizeOf40 (by decide) rfl rfl ⟨_, _, rfl⟩) ?_
   refine lg (b := decide (r_73 ≤ 0)) 21 rfl rfl rfl (by rw [hg_77]; rfl) ?_
   refine lV (.agg #[(.bool p2_v.2.1.1), (.slice a2_6 p2_v.2.1.2.length cap2_6), (.slice a2_8 p2_v.2.2.length cap2_8)]) (r_ldN Tryz.isAgg40 Tryz.sizeOf40 rfl rfl ((hb2.atN).part 3 3 _ rfl)) ?_
   refine lg (b := decide (r_73 ≤ 0)) 21 rfl rfl rfl (by rw [hg_77]; rfl) ?_
   refine lV (.pointer ((some (⟨g_33, 0, none⟩ : Addr)).map (·.add 3))) (rF (sz := 3) (off := 3) Tryz.underlying62 rfl Tryz.sizeOf40 (by decide) rfl rfl ⟨_, _, rfl⟩) ?_
   refine lg (b := decide (r_73 ≤ 0)) 21 rfl rfl rfl (by rw [hg_77]; rfl) ?_
   refine lV (.agg #[(.bool x_5.2.1.1), (.slice a_27 x_5.2.1.2.length cap_28), (.slice a_30 x_5.2.2.length cap_31)]) (r_ldN Tryz.isAgg40 Tryz.sizeOf40 rfl rfl ((hb_41.atN).part 3 3 _ rfl)) ?_
   refine lg (b := decide (r_73 ≤ 0)) 21 rfl rfl rfl (by rw [hg_77]; rfl) ?_
   obtain ⟨r_78, hr_79, hm⟩ := bS hm
   refine lc rfl rfl (r_call2 Tryz.call43 rfl rfl) (c_frac_Cmp N col_35 _ a2_6 cap2_6 a2_8 cap2_8 ((p2_v.2.1.1, p2_v.2.1.2), p2_v.2.2) a_27 cap_28 a_30 cap_31 ((x_5.2.1.1, x_5.2.1.2), x_5.2.2) h2_6 h2_8 h_29 h_32 r_78 hr_79) ?_
   rintro _ w_80 ⟨rfl, hg_81⟩
   refine ⟨_, rfl, ?_⟩
   replace hg_81 : Grow col_35 w_75 col_35 w_80 := .of_below hg_81
   refine lg (b := decide (r_73 ≤ 0)) 21 rfl rfl rfl (by rw [hg_77]; rfl) ?_
   refine lV (.bool (decide (r_78 ≤ 0))) (r_leq r_78 0 rfl rfl) ?_
   refine lV (.bool (decide (r_78 ≤ 0))) (r_pickT (congrArg Value.bool hg_77) rfl) ?_
   refine lM (.bool (decide (r_78 ≤ 0))) ?_
   replace h2_2 := h2_2.gr hg_81
   replace h2_4 := h2_4.gr hg_81
   replace h2_6 := h2_6.gr hg_81
   replace h2_8 := h2_8.gr hg_81
   replace h1 := h1.gr hg_81
   replace h_19 := h_19.gr hg_81
   replace h_22 := h_22.gr hg_81
   replace h_29 := h_29.gr hg_81
   replace h_32 := h_32.gr hg_81
   replace hb2 := hb2.gr hg_81
   replace hb_41 := hb_41.gr hg_81
   replace hst := hst.grow hg_81
   by_cases hg_82 : (decide (r_78 ≤ 0)) = true
   ·rw [if_pos hg_82] at hm
    refine lg (b := decide (r_78 ≤ 0)) 29 rfl rfl rfl (by rw [hg_82]; rfl) ?_
    refine lV (.pointer ((some (⟨g_33, 0, none⟩ : Addr)).map (·.add 0))) (rF (sz := 3) (off := 0) Tryz.underlying62 rfl Tryz.sizeOf40 (by decide) rfl rfl ⟨_, _, rfl⟩) ?_
    refine lg (b := decide (r_78 ≤ 0)) 29 rfl rfl rfl (by rw [hg_82]; rfl) ?_
    refine lV (.agg #[(.bool x_5.1.1.1), (.slice a_17 x_5.1.1.2.length cap_18), (.slice a_20 x_5.1.2.length cap_21)]) (r_ldN Tryz.isAgg40 Tryz.sizeOf40 rfl rfl ((hb_41.atN).part 0 3 _ rfl)) ?_
    refine lg (b := decide (r_78 ≤ 0)) 29 rfl rfl rfl (by rw [hg_82]; rfl) ?_
    refine lV (.pointer ((some (⟨g_33, 0, none⟩ : Addr)).map (·.add 3))) (rF (sz := 3) (off := 3) Tryz.underlying62 rfl Tryz.sizeOf40 (by decide) rfl rfl ⟨_, _, rfl⟩) ?_
    refine lg (b := decide (r_78 ≤ 0)) 29 rfl rfl rfl (by rw [hg_82]; rfl) ?_
    refine lV (.agg #[(.bool x_5.2.1.1), (.slice a_27 x_5.2.1.2.length cap_28), (.slice a_30 x_5.2.2.length cap_31)]) (r_ldN Tryz.isAgg40 Tryz.sizeOf40 rfl rfl ((hb_41.atN).part 3 3 _ rfl)) ?_
    refine lg (b := decide (r_78 ≤ 0)) 29 rfl rfl rfl (by rw [hg_82]; rfl) ?_
    obtain ⟨r_83, hr_84, hm⟩ := bS hm
    refine lc rfl rfl (r_call2 Tryz.call43 rfl rfl) (c_frac_Cmp N col_35 _ a_17 cap_18 a_20 cap_21 ((x_5.1.1.1, x_5.1.1.2), x_5.1.2) a_27 cap_28 a_30 cap_31 ((x_5.2.1.1, x_5.2.1.2), x_5.2.2) h_19 h_22 h_29 h_32 r_83 hr_84) ?_
    rintro _ w_85 ⟨rfl, hg_86⟩
    refine ⟨_, rfl, ?_⟩
    replace hg_86 : Grow col_35 w_80 col_35 w_85 := .of_below hg_86
    refine lg (b := decide (r_78 ≤ 0)) 29 rfl rfl rfl (by rw [hg_82]; rfl) ?_
    refine lV (.bool (decide (r_83 < 0))) (r_lss r_83 0 rfl rfl) ?_
    refine lV (.bool (decide (r_83 < 0))) (r_pickT (congrArg Value.bool hg_82) rfl) ?_
    refine lN ?_
    replace h2_2 := h2_2.gr hg_86
    replace h2_4 := h2_4.gr hg_86
    replace h2_6 := h2_6.gr hg_86
    replace h2_8 := h2_8.gr hg_86
    replace h1 := h1.gr hg_86
    replace hb2 := hb2.gr hg_86
    replace hst := hst.grow hg_86
    exact ⟨col_35, (decide (r_83 < 0)), hm, hst, h2_2, h2_4, h2_6, h2_8, hb2, h1, rfl, rfl, rfl, rfl, rfl, rfl, rfl⟩
   rw [if_neg hg_82] at hm
   replace hg_82 := Bool.eq_false_iff.2 hg_82
   refine lp (b := decide (r_78 ≤ 0)) 29 rfl rfl rfl rfl (by rw [hg_82]; rfl) ?_
   refine lp (b := decide (r_78 ≤ 0)) 29 rfl rfl rfl rfl (by rw [hg_82]; rfl) ?_
   refine lp (b := decide (r_78 ≤ 0)) 29 rfl rfl rfl rfl (by rw [hg_82]; rfl) ?_
   refine lp (b := decide (r_78 ≤ 0)) 29 rfl rfl rfl rfl (by rw [hg_82]; rfl) ?_
   refine lp (b := decide (r_78 ≤ 0)) 29 rfl rfl rfl rfl (by rw [hg_82]; rfl) ?_
   refine lp (b := decide (r_78 ≤ 0)) 29 rfl rfl rfl rfl (by rw [hg_82]; rfl) ?_
   refine lV (.bool false) (r_pickF (congrArg Value.bool hg_82) rfl) ?_
   refine lN ?_
   exact ⟨col_35, false, hm, hst, h2_2, h2_4, h2_6, h2_8, hb2, h1, rfl, rfl, rfl, rfl, rfl, rfl, rfl⟩
  rw [if_neg hg_77] at hm
  replace hg_77 := Bool.eq_false_iff.2 hg_77
  refine lp (b := decide (r_73 ≤ 0)) 21 rfl rfl rfl rfl (by rw [hg_77]; rfl) ?_
  refine lp (b := decide (r_73 ≤ 0)) 21 rfl rfl rfl rfl (by rw [hg_77]; rfl) ?_
  refine lp (b := decide (r_73 ≤ 0)) 21 rfl rfl rfl rfl (by rw [hg_77]; rfl) ?_
  refine lp (b := decide (r_73 ≤ 0)) 21 rfl rfl rfl rfl (by rw [hg_77]; rfl) ?_
  refine lp (b := decide (r_73 ≤ 0)) 21 rfl rfl rfl rfl (by rw [hg_77]; rfl) ?_
  refine lp (b := decide (r_73 ≤ 0)) 21 rfl rfl rfl rfl (by rw [hg_77]; rfl) ?_
  refine lV (.bool false) (r_pickF (congrArg Value.bool hg_77) rfl) ?_
  refine lM (.bool false) ?_
  refine lp (b := false) 29 rfl rfl rfl rfl rfl ?_
  refine lp (b := false) 29 rfl rfl rfl rfl rfl ?_
  refine lp (b := false) 29 rfl rfl rfl rfl rfl ?_
  refine lp (b := false) 29 rfl rfl rfl rfl rfl ?_
  refine lp (b := false) 29 rfl rfl rfl rfl rfl ?_
  refine lp (b := false) 29 rfl rfl rfl rfl rfl ?_
  refine lV (.bool false) (r_pickF rfl rfl) ?_
  refine lN ?_
  exact ⟨col_35, false, hm, hst, h2_2, h2_4, h2_6, h2_8, hb2, h1, rfl, rfl, rfl, rfl, rfl, rfl, rfl⟩
theorem el62_71V2C124XSSSS : ElemOk Tryz.prog 62 6 112 := ⟨Tryz.t62, _, rfl, rfl, rfl, rfl, rfl⟩
def m_code_cut_v2c124xssss_L3 (N : Nat) (p0_n : (ByteArray × (List ByteArray) × (List (List ByteArray)) × (List (List Int)) × (List (List ((Bool × (List Int)) × (List Int)))))) (n_70 : Bool) (n_71 : List Int) (n_75 : List Int) (n_79 : Bool) (n_80 : List Int) (n_84 : List Int) (v_88 : Bool) (v_89 : List Int) (v_93 : List Int) (v_97 : Bool) (v_98 : List Int) (v_102 : List Int) (values_106 : List Int) (kk_L1 : (Bool → (List Int) → (List Int) → Bool → (List Int) → (List Int) → Bool → (List Int) → (List Int) → Bool → (List Int) → (List Int) → Bool → (List Int) → (List Int) → Bool → (List Int) → (List Int) → (List Int) → Option ((List Int) × (((Bool × (List Int)) × (List Int)) × ((Bool × (List Int)) × (List Int))) × Bool))) (x_110 : Int) (row_129 : Int) (r_132 : ((Bool × (List Int)) × (List Int))) (e_161 : (List ByteArray)) : Nat → Bool → (List Int) → (List Int) → (List (((Bool × (List Int)) × (List Int)) × ((Bool × (List Int)) × (List Int)))) → Int → Option ((List Int) × (((Bool × (List Int)) × (List Int)) × ((Bool × (List Int)) × (List Int))) × Bool)
  | 0, _, _, _, _, _ => none
  | n_168 + 1, at_171, at_172, at_176, parts_180, v_184 => if (decide (v_184 < (e_161.length : Int))) = true then ((at? p0_n.2.2.2.2 x_110).bind fun e_186 => (at? p0_n.2.2.1 x_110).bind fun e_193 => (at? e_186 (IntKind.i64.wrap ((IntKind.i64.wrap (row_129 * (e_193.length : Int))) + v_184))).bind fun e_200 => (m_frac_Mul N ((r_132.1.1, r_132.1.2), r_132.2) ((e_200.1.1, e_200.1.2), e_200.2)).bind fun r_215 => (m_frac_Add N ((at_171, at_172), at_176) ((r_215.1.1, r_215.1.2), r_215.2)).bind fun r_229 => chk ((parts_180.length + [(((at_171, at_172), at_176), ((r_229.1.1, r_229.1.2), r_229.2))].length) * 112 ≤ 140737488355328 ∧ parts_180.length + [(((at_171, at_172), at_176), ((r_229.1.1, r_229.1.2), r_229.2))].length ≤ maxLen) ((m_code_cut_v2c124xssss_L3 N p0_n n_70 n_71 n_75 n_79 n_80 n_84 v_88 v_89 v_93 v_97 v_98 v_102 values_106 kk_L1 x_110 row_129 r_132 e_161 n_168) r_229.1.1 r_229.1.2 r_229.2 (parts_180 ++ [(((at_171, at_172), at_176), ((r_229.1.1, r_229.1.2), r_229.2))]) (IntKind.i64.wrap (v_184 + 1)))) else ((m_code_within_1_v2sssss N x_110 parts_180 (((n_70, n_71), n_75), ((n_79, n_80), n_84))).bind fun r_269 => if (decide (r_269 < 0)) = true then (some (([] : List Int), (((false, ([] : List Int)), ([] : List Int)), ((false, ([] : List Int)), ([] : List Int))), false)) else ((at? parts_180 r_269).bind fun e_277 => (at? values_106 x_110).bind fun e_303 => (some (values_106.set (Int.toNat x_110) r_269)).bind fun xs_310 => kk_L1 e_277.1.1.1 e_277.1.1.2 e_277.1.2 e_277.2.1.1 e_277.2.1.2 e_277.2.2 n_70 n_71 n_75 n_79 n_80 n_84 v_88 v_89 v_93 v_97 v_98 v_102 xs_310))
termination_by structural x => x
def m_code_cut_v2c124xssss_L2 (N : Nat) (p0_n : (ByteArray × (List ByteArray) × (List (List ByteArray)) × (List (List Int)) × (List (List ((Bool × (List Int)) × (List Int)))))) (s_52 : Bool) (s_53 : List Int) (s_57 : List Int) (s_61 : Bool) (s_62 : List Int) (s_66 : List Int) (n_70 : Bool) (n_71 : List Int) (n_75 : List Int) (n_79 : Bool) (n_80 : List Int) (n_84 : List Int) (v_88 : Bool) (v_89 : List Int) (v_93 : List Int) (v_97 : Bool) (v_98 : List Int) (v_102 : List Int) (values_106 : List Int) (kk_L1 : (Bool → (List Int) → (List Int) → Bool → (List Int) → (List Int) → Bool → (List Int) → (List Int) → Bool → (List Int) → (List Int) → Bool → (List Int) → (List Int) → Bool → (List Int) → (List Int) → (List Int) → Option ((List Int) × (((Bool × (List Int)) × (List Int)) × ((Bool × (List Int)) × (List Int))) × Bool))) (x_110 : Int) : List Int → Int → Option ((List Int) × (((Bool × (List Int)) × (List Int)) × ((Bool × (List Int)) × (List Int))) × Bool)
  | [], row_129 => (m_frac_Sub N ((s_61, s_62), s_66) ((s_52, s_53), s_57)).bind fun r_132 => (at? p0_n.2.2.1 x_110).bind fun e_161 => m_code_cut_v2c124xssss_L3 N p0_n n_70 n_71 n_75 n_79 n_80 n_84 v_88 v_89 v_93 v_97 v_98 v_102 values_106 kk_L1 x_110 row_129 r_132 e_161 N s_52 s_53 s_57 ([] : List (((Bool × (List Int)) × (List Int)) × ((Bool × (List Int)) × (List Int)))) 0
  | x_130 :: l_131, row_129 => (at? p0_n.2.2.1 x_130).bind fun e_315 => (at? values_106 x_130).bind fun e_322 => (m_code_cut_v2c124xssss_L2 N p0_n s_52 s_53 s_57 s_61 s_62 s_66 n_70 n_71 n_75 n_79 n_80 n_84 v_88 v_89 v_93 v_97 v_98 v_102 values_106 kk_L1 x_110 l_131) (IntKind.i64.wrap ((IntKind.i64.wrap (row_129 * (e_315.length : Int))) + e_322))
termination_by structural x => x
def m_code_cut_v2c124xssss_L1 (N : Nat) (p0_n : (ByteArray × (List ByteArray) × (List (List ByteArray)) × (List (List Int)) × (List (List ((Bool × (List Int)) × (List Int)))))) : List Int → Bool → (List Int) → (List Int) → Bool → (List Int) → (List Int) → Bool → (List Int) → (List Int) → Bool → (List Int) → (List Int) → Bool → (List Int) → (List Int) → Bool → (List Int) → (List Int) → (List Int) → Option ((List Int) × (((Bool × (List Int)) × (List Int)) × ((Bool × (List Int)) × (List Int))) × Bool)
  | [], s_52, s_53, s_57, s_61, s_62, s_66, n_70, n_71, n_75, n_79, n_80, n_84, v_88, v_89, v_93, v_97, v_98, v_102, values_106 => some (values_106, (((s_52, s_53), s_57), ((s_61, s_62), s_66)), true)
  | x_110 :: l_111, s_52, s_53, s_57, s_61, s_62, s_66, n_70, n_71, n_75, n_79, n_80, n_84, v_88, v_89, v_93, v_97, v_98, v_102, values_106 => (at? p0_n.2.2.2.1 x_110).bind fun e_118 => m_code_cut_v2c124xssss_L2 N p0_n s_52 s_53 s_57 s_61 s_62 s_66 n_70 n_71 n_75 n_79 n_80 n_84 v_88 v_89 v_93 v_97 v_98 v_102 values_106 (m_code_cut_v2c124xssss_L1 N p0_n l_111) x_110 e_118 0
termination_by structural x => x
def m_code_cut_v2c124xssss (N : Nat) (p0_n : (ByteArray × (List ByteArray) × (List (List ByteArray)) × (List (List Int)) × (List (List ((Bool × (List Int)) × (List Int)))))) (p1_order : (List Int)) (q3_v : (((Bool × (List Int)) × (List Int)) × ((Bool × (List Int)) × (List Int)))) : Option ((List Int) × (((Bool × (List Int)) × (List Int)) × ((Bool × (List Int)) × (List Int))) × Bool) :=
  chk (p0_n.2.1.length * 8 ≤ 281474976710656 ∧ p0_n.2.1.length ≤ maxLen) ((m_frac_Sum N ([] : List ((Bool × (List Int)) × (List Int)))).bind fun r_17 => (m_code_one).bind fun r_28 => m_code_cut_v2c124xssss_L1 N p0_n p1_order r_17.1.1 r_17.1.2 r_17.2 r_28.1.1 r_28.1.2 r_28.2 q3_v.1.1.1 q3_v.1.1.2 q3_v.1.2 q3_v.2.1.1 q3_v.2.1.2 q3_v.2.2 false ([] : List Int) ([] : List Int) false ([] : List Int) ([] : List Int) (List.replicate p0_n.2.1.length (0 : Int)))
theorem c_code_cut_v2c124xssss (N : Nat) (c1 : Nat) (col : Col) (w0 : World) (qc3 : Nat) (hqqc3 : qc3 ≠ 0) (a0_0 : Option Addr) (cap0_0 : Nat) (a0_2 : Option Addr) (cap0_2 : Nat) (a0_4 : Option Addr) (cap0_4 : Nat) (a0_6 : Option Addr) (cap0_6 : Nat) (p0_n : (ByteArray × (List ByteArray) × (List (List ByteArray)) × (List (List Int)) × (List (List ((Bool × (List Int)) × (List Int)))))) (a1 : Option Addr) (cap1 : Nat) (p1_order : (List Int)) (g3 : Nat) (q3_v : (((Bool × (List Int)) × (List Int)) × ((Bool × (List Int)) × (List Int)))) (a3_2 : Option Addr) (cap3_2 : Nat) (a3_4 : Option Addr) (cap3_4 : Nat) (a3_6 : Option Addr) (cap3_6 : Nat) (a3_8 : Option Addr) (cap3_8 : Nat) (h0_0 : Sl Rep.str col w0 a0_0 cap0_0 p0_n.2.1) (h0_2 : Sl (Rep.slice Rep.str) col w0 a0_2 cap0_2 p0_n.2.2.1) (h0_4 : Sl (Rep.slice (Rep.int .i64)) col w0 a0_4 cap0_4 p0_n.2.2.2.1) (h0_6 : Sl (Rep.slice (Rep.pair (Rep.pair Rep.bool (Rep.slice (Rep.int .u32))) (Rep.slice (Rep.int .u32)))) col w0 a0_6 cap0_6 p0_n.2.2.2.2) (h1 : Sl (Rep.int .i64) col w0 a1 cap1 p1_order) (h3_2 : Sl (Rep.int .u32) col w0 a3_2 cap3_2 q3_v.1.1.2) (h3_4 : Sl (Rep.int .u32) col w0 a3_4 cap3_4 q3_v.1.2) (h3_6 : Sl (Rep.int .u32) col w0 a3_6 cap3_6 q3_v.2.1.2) (h3_8 : Sl (Rep.int .u32) col w0 a3_8 cap3_8 q3_v.2.2) (hb3 : Box 62 qc3 col w0 g3 #[(.bool q3_v.1.1.1), (.slice a3_2 q3_v.1.1.2.length cap3_2), (.slice a3_4 q3_v.1.2.length cap3_4), (.bool q3_v.2.1.1), (.slice a3_6 q3_v.2.1.2.length cap3_6), (.slice a3_8 q3_v.2.2.length cap3_8)]) (r : ((List Int) × (((Bool × (List Int)) × (List Int)) × ((Bool × (List Int)) × (List Int))) × Bool)) (hm : m_code_cut_v2c124xssss N p0_n p1_order q3_v = some r) :
    Calls Tryz.prog 71 #[(.agg #[(.string p0_n.1), (.slice a0_0 p0_n.2.1.length cap0_0), (.slice a0_2 p0_n.2.2.1.length cap0_2), (.slice a0_4 p0_n.2.2.2.1.length cap0_4), (.slice a0_6 p0_n.2.2.2.2.length cap0_6)]), (.slice a1 p1_order.length cap1), (.func (.func 124) #[] #[(.pointer (some ⟨g3, 0, none⟩))])] w0 (fun e w' => ∃ (col' : Col) (ra1 : Option Addr) (rc2 : Nat) (ra4 : Option Addr) (rc5 : Nat) (ra7 : Option Addr) (rc8 : Nat) (ra10 : Option Addr) (rc11 : Nat) (ra13 : Option Addr) (rc14 : Nat), e = .returned (.tuple #[(.slice ra1 r.1.length rc2), (.agg #[(.bool r.2.1.1.1.1), (.slice ra4 r.2.1.1.1.2.length rc5), (.slice ra7 r.2.1.1.2.length rc8), (.bool r.2.1.2.1.1), (.slice ra10 r.2.1.2.1.2.length rc11), (.slice ra13 r.2.1.2.2.length rc14)]), (.bool r.2.2)]) ∧ Grow col w0 col' w' ∧ Own (Rep.int .i64) 3 c1 col' w' ra1 rc2 r.1 ∧ Sl (Rep.int .u32) col' w' ra4 rc5 r.2.1.1.1.2 ∧ Sl (Rep.int .u32) col' w' ra7 rc8 r.2.1.1.2 ∧ Sl (Rep.int .u32) col' w' ra10 rc11 r.2.1.2.1.2 ∧ Sl (Rep.int .u32) col' w' ra13 rc14 r.2.1.2.2) := by
 refine calls_ofR (m := 122) (args := [(.agg #[(.string p0_n.1), (.slice a0_0 p0_n.2.1.length cap0_0), (.slice a0_2 p0_n.2.2.1.length cap0_2), (.slice a0_4 p0_n.2.2.2.1.length cap0_4), (.slice a0_6 p0_n.2.2.2.2.length cap0_6)]), (.slice a1 p1_order.length cap1), (.func (.func 124) #[] #[(.pointer (some ⟨g3, 0, none⟩))])]) Tryz.func71 rfl rfl rfl ?_
 rw [m_code_cut_v2c124xssss.eq_1] at hm
 have hst := St.start col w0
 replace hb3 := hb3.start0 hqqc3
 refine wS (wR ?_)
 refine l_box (col := (col0 col)) (v := (.agg #[(.string p0_n.1), (.slice a0_0 p0_n.2.1.length cap0_0), (.slice a0_2 p0_n.2.2.1.length cap0_2), (.slice a0_4 p0_n.2.2.2.1.length cap0_4), (.slice a0_6 p0_n.2.2.2.2.length cap0_6)])) 1 rfl rfl ?_
 intro g_1 w_2 col_3 hg_4 hb_5
 replace hb_5 : Box 28 1 col_3 w_2 g_1 #[(.string p0_n.1), (.slice a0_0 p0_n.2.1.length cap0_0), (.slice a0_2 p0_n.2.2.1.length cap0_2), (.slice a0_4 p0_n.2.2.2.1.length cap0_4), (.slice a0_6 p0_n.2.2.2.2.length cap0_6)] := hb_5
 refine lA (.slice none (([] : List Int).length) 0) ?_
 refine l_alloc (col := col_3) (v := (.agg #[(.bool false), (.slice none (([] : List Int).length) 0), (.slice none (([] : List Int).length) 0), (.bool false), (.slice none (([] : List Int).length) 0), (.slice none (([] : List Int).length) 0)])) 2 rfl Tryz.zeroValue62 ?_
 intro g_6 w_7 col_8 hg_9 hb_10
 replace hb_10 : Box 62 2 col_8 w_7 g_6 #[(.bool false), (.slice none (([] : List Int).length) 0), (.slice none (([] : List Int).length) 0), (.bool false), (.slice none (([] : List Int).length) 0), (.slice none (([] : List Int).length) 0)] := hb_10
 refine lA (.bool false) ?_
 refine lN (wS (wR ?_))
 refine lV (.pointer ((some (⟨g_1, 0, none⟩ : Addr)).map (·.add 1))) (rF (sz := 1) (off := 1) Tryz.underlying28 rfl Tryz.sizeOf23 (by decide) rfl rfl ⟨_, _, rfl⟩) ?_
 replace hb_5 := hb_5.gr hg_9
 refine lV (.slice a0_0 p0_n.2.1.length cap0_0) (r_ld Tryz.isAgg23 rfl ((hb_5.atN).nth (q := 1) (v := (.slice a0_0 p0_n.2.1.length cap0_0)) rfl)) ?_
 refine lV (.int .i64 (p0_n.2.1.length : Int)) (r_len Tryz.underlying23 rfl) ?_
 obtain ⟨hb_11, hm⟩ := cS hm
 refine l_make (col := col_8) (w := w_7) (r := (Rep.int .i64)) (n := p0_n.2.1.length) (x0 := 0) 3 rfl Tryz.underlying33 Tryz.t3 rfl rfl rfl rfl rfl rfl rfl hb_11.1 hb_11.2 (rd_int .i64 0) ?_
 intro a_12 w_13 col_14 hg_15 h_16
 refine lA (.slice a_12 ((List.replicate p0_n.2.1.length (0 : Int)).length) p0_n.2.1.length) ?_
 refine lN (wS (wR ?_))
 obtain ⟨r_17, hr_18, hm⟩ := bS hm
 refine lc rfl rfl (r_call1 Tryz.call51 rfl) (c_frac_Sum N 4 5 col_14 _ none 0 ([] : List ((Bool × (List Int)) × (List Int))) Sl.nil r_17 hr_18) ?_
 rintro _ w_25 ⟨col_27, ra_19, rc_20, ra_22, rc_23, rfl, hg_26, rh_21, rh_24⟩
 refine ⟨_, rfl, ?_⟩
 obtain ⟨r_28, hr_29, hm⟩ := bS hm
 refine lc rfl rfl (r_call0 Tryz.call67 ) (c_code_one 6 7 col_27 _ r_28 hr_29) ?_
 rintro _ w_36 ⟨col_38, ra_30, rc_31, ra_33, rc_34, rfl, hg_37, rh_32, rh_35⟩
 refine ⟨_, rfl, ?_⟩
 refine lV (.agg #[(.bool r_17.1.1), (.slice ra_19 r_17.1.2.length rc_20), (.slice ra_22 r_17.2.length rc_23), (.bool r_28.1.1), (.slice ra_30 r_28.1.2.length rc_31), (.slice ra_33 r_28.2.length rc_34)]) (r_build (l := [_, _]) (qs := [(0, 3), (3, 3)]) Tryz.underlying62 Tryz.zeroValue62 ⟨rfl, Tryz.sizeOf40, rfl, Tryz.sizeOf40, trivial⟩ rfl) ?_
 refine l_alloc (col := col_38) (v := (.agg #[(.bool false), (.slice none (([] : List Int).length) 0), (.slice none (([] : List Int).length) 0), (.bool false), (.slice none (([] : List Int).length) 0), (.slice none (([] : List Int).length) 0)])) 8 rfl Tryz.zeroValue62 ?_
 intro g_39 w_40 col_41 hg_42 hb_43
 replace hb_43 : Box 62 8 col_41 w_40 g_39 #[(.bool false), (.slice none (([] : List Int).length) 0), (.slice none (([] : List Int).length) 0), (.bool false), (.slice none (([] : List Int).length) 0), (.slice none (([] : List Int).length) 0)] := hb_43
 refine l_bstore (v := (.agg #[(.bool r_17.1.1), (.slice ra_19 r_17.1.2.length rc_20), (.slice ra_22 r_17.2.length rc_23), (.bool r_28.1.1), (.slice ra_30 r_28.1.2.length rc_31), (.slice ra_33 r_28.2.length rc_34)])) hb_43 Tryz.sizeOf62 rfl rfl (by intro u hu; simp only [Value.cells, List.mem_cons, List.not_mem_nil, or_false] at hu; rcases hu with rfl | rfl | rfl | rfl | rfl | rfl <;> rfl) rfl rfl ?_
 intro w_44 hk_45 hs_46 hb_47
 clear hb_43
 replace hb_47 : Box 62 8 col_41 w_44 g_39 #[(.bool r_17.1.1), (.slice ra_19 r_17.1.2.length rc_20), (.slice ra_22 r_17.2.length rc_23), (.bool r_28.1.1), (.slice ra_30 r_28.1.2.length rc_31), (.slice ra_33 r_28.2.length rc_34)] := hb_47
 refine lN (wS (wS (wR ?_)))
 refine lM (.slice a1 p1_order.length cap1) ?_
 refine lV (.int .i64 (p1_order.length : Int)) (r_len Tryz.underlying33 rfl) ?_
 refine lM (.int .i64 0) ?_
 refine lN (wB ?_)
 replace h3_2 := (((((((h3_2.keep (Stay.start col w0)).gr hg_4).gr hg_9).gr hg_15).gr hg_26).gr hg_37).gr hg_42).kp hk_45
 replace h3_2 := h3_2.froz 4
 replace h3_4 := (((((((h3_4.keep (Stay.start col w0)).gr hg_4).gr hg_9).gr hg_15).gr hg_26).gr hg_37).gr hg_42).kp hk_45
 replace h3_4 := h3_4.froz 4
 replace h3_6 := (((((((h3_6.keep (Stay.start col w0)).gr hg_4).gr hg_9).gr hg_15).gr hg_26).gr hg_37).gr hg_42).kp hk_45
 replace h3_6 := h3_6.froz 4
 replace h3_8 := (((((((h3_8.keep (Stay.start col w0)).gr hg_4).gr hg_9).gr hg_15).gr hg_26).gr hg_37).gr hg_42).kp hk_45
 replace h3_8 := h3_8.froz 4
 replace h0_0 := (((((((h0_0.keep (Stay.start col w0)).gr hg_4).gr hg_9).gr hg_15).gr hg_26).gr hg_37).gr hg_42).kp hk_45
 replace h0_0 := h0_0.froz 4
 replace h0_2 := (((((((h0_2.keep (Stay.start col w0)).gr hg_4).gr hg_9).gr hg_15).gr hg_26).gr hg_37).gr hg_42).kp hk_45
 replace h0_2 := h0_2.froz 4
 replace h0_4 := (((((((h0_4.keep (Stay.start col w0)).gr hg_4).gr hg_9).gr hg_15).gr hg_26).gr hg_37).gr hg_42).kp hk_45
 replace h0_4 := h0_4.froz 4
 replace h0_6 := (((((((h0_6.keep (Stay.start col w0)).gr hg_4).gr hg_9).gr hg_15).gr hg_26).gr hg_37).gr hg_42).kp hk_45
 replace h0_6 := h0_6.froz 4
 replace h_16 := (((h_16.gr hg_26).gr hg_37).gr hg_42).kp hk_45
 replace h_16 := h_16.froz 4 (by decide)
 replace rh_21 := ((rh_21.gr hg_37).gr hg_42).kp hk_45
 replace rh_21 := (rh_21).toSlF (Froz.int .u32)
 replace rh_24 := ((rh_24.gr hg_37).gr hg_42).kp hk_45
 replace rh_24 := rh_24.froz 4 (by decide)
 replace rh_32 := (rh_32.gr hg_42).kp hk_45
 replace rh_32 := rh_32.froz 4 (by decide)
 replace rh_35 := (rh_35.gr hg_42).kp hk_45
 replace rh_35 := rh_35.froz 4 (by decide)
 replace h1 := (((((((h1.keep (Stay.start col w0)).gr hg_4).gr hg_9).gr hg_15).gr hg_26).gr hg_37).gr hg_42).kp hk_45
 replace h1 := h1.froz 4
 replace hb3 := ((((((hb3.gr hg_4).gr hg_9).gr hg_15).gr hg_26).gr hg_37).gr hg_42).kp hk_45
 replace hb3 := hb3.froz 4 (by decide)
 replace hb_5 := ((((hb_5.gr hg_15).gr hg_26).gr hg_37).gr hg_42).kp hk_45
 replace hb_5 := hb_5.froz 4 (by decide)
 replace hb_10 := ((((hb_10.gr hg_15).gr hg_26).gr hg_37).gr hg_42).kp hk_45
 replace hb_10 := hb_10.froz 4 (by decide)
 replace hb_47 := hb_47.froz 4 (by decide)
 replace hst := ((((((hst.grow hg_4).grow hg_9).grow hg_15).grow hg_26).grow hg_37).grow hg_42).kp hk_45 hs_46
 replace hst := hst.froz 4 (by decide) (by decide)
 replace h3_2 := h3_2.froz 5
 replace h3_4 := h3_4.froz 5
 replace h3_6 := h3_6.froz 5
 replace h3_8 := h3_8.froz 5
 replace h0_0 := h0_0.froz 5
 replace h0_2 := h0_2.froz 5
 replace h0_4 := h0_4.froz 5
 replace h0_6 := h0_6.froz 5
 replace h_16 := h_16.froz 5 (by decide)
 replace rh_21 := rh_21.froz 5
 replace rh_24 := (rh_24).toSlF (Froz.int .u32)
 replace rh_32 := rh_32.froz 5 (by decide)
 replace rh_35 := rh_35.froz 5 (by decide)
 replace h1 := h1.froz 5
 replace hb3 := hb3.froz 5 (by decide)
 replace hb_5 := hb_5.froz 5 (by decide)
 replace hb_10 := hb_10.froz 5 (by decide)
 replace hb_47 := hb_47.froz 5 (by decide)
 replace hst := hst.froz 5 (by decide) (by decide)
 replace h3_2 := h3_2.froz 6
 replace h3_4 := h3_4.froz 6
 replace h3_6 := h3_6.froz 6
 replace h3_8 := h3_8.froz 6
 replace h0_0 := h0_0.froz 6
 replace h0_2 := h0_2.froz 6
 replace h0_4 := h0_4.froz 6
 replace h0_6 := h0_6.froz 6
 replace h_16 := h_16.froz 6 (by decide)
 replace rh_21 := rh_21.froz 6
 replace rh_24 := rh_24.froz 6
 replace rh_32 := (rh_32).toSlF (Froz.int .u32)
 replace rh_35 := rh_35.froz 6 (by decide)
 replace h1 := h1.froz 6
 replace hb3 := hb3.froz 6 (by decide)
 replace hb_5 := hb_5.froz 6 (by decide)
 replace hb_10 := hb_10.froz 6 (by decide)
 replace hb_47 := hb_47.froz 6 (by decide)
 replace hst := hst.froz 6 (by decide) (by decide)
 replace h3_2 := h3_2.froz 7
 replace h3_4 := h3_4.froz 7
 replace h3_6 := h3_6.froz 7
 replace h3_8 := h3_8.froz 7
 replace h0_0 := h0_0.froz 7
 replace h0_2 := h0_2.froz 7
 replace h0_4 := h0_4.froz 7
 replace h0_6 := h0_6.froz 7
 replace h_16 := h_16.froz 7 (by decide)
 replace rh_21 := rh_21.froz 7
 replace rh_24 := rh_24.froz 7
 replace rh_32 := rh_32.froz 7
 replace rh_35 := (rh_35).toSlF (Froz.int .u32)
 replace h1 := h1.froz 7
 replace hb3 := hb3.froz 7 (by decide)
 replace hb_5 := hb_5.froz 7 (by decide)
 replace hb_10 := hb_10.froz 7 (by decide)
 replace hb_47 := hb_47.froz 7 (by decide)
 replace hst := hst.froz 7 (by decide) (by decide)
 refine wloop (fun n f w_50 => ∃ (col_51 : Col) (s_52 : Bool) (a_54 : Option Addr) (cap_55 : Nat) (s_53 : List Int) (a_58 : Option Addr) (cap_59 : Nat) (s_57 : List Int) (s_61 : Bool) (a_63 : Option Addr) (cap_64 : Nat) (s_62 : List Int) (a_67 : Option Addr) (cap_68 : Nat) (s_66 : List Int) (n_70 : Bool) (a_72 : Option Addr) (cap_73 : Nat) (n_71 : List Int) (a_76 : Option Addr) (cap_77 : Nat) (n_75 : List Int) (n_79 : Bool) (a_81 : Option Addr) (cap_82 : Nat) (n_80 : List Int) (a_85 : Option Addr) (cap_86 : Nat) (n_84 : List Int) (k_48 : Nat) (v_88 : Bool) (a_90 : Option Addr) (cap_91 : Nat) (v_89 : List Int) (a_94 : Option Addr) (cap_95 : Nat) (v_93 : List Int) (v_97 : Bool) (a_99 : Option Addr) (cap_100 : Nat) (v_98 : List Int) (a_103 : Option Addr) (cap_104 : Nat) (v_102 : List Int) (a_107 : Option Addr) (cap_108 : Nat) (values_106 : List Int) (l_49 : List Int), n = l_49.length ∧ p1_order.drop k_48 = l_49 ∧ m_code_cut_v2c124xssss_L1 N p0_n l_49 s_52 s_53 s_57 s_61 s_62 s_66 n_70 n_71 n_75 n_79 n_80 n_84 v_88 v_89 v_93 v_97 v_98 v_102 values_106 = some r ∧ St w0 (col0 col) col_51 w_50 ∧ Sl (Rep.int .u32) col_51 w_50 a_54 cap_55 s_53 ∧ Sl (Rep.int .u32) col_51 w_50 a_58 cap_59 s_57 ∧ Sl (Rep.int .u32) col_51 w_50 a_63 cap_64 s_62 ∧ Sl (Rep.int .u32) col_51 w_50 a_67 cap_68 s_66 ∧ Box 62 8 col_51 w_50 g_39 #[(.bool s_52), (.slice a_54 s_53.length cap_55), (.slice a_58 s_57.length cap_59), (.bool s_61), (.slice a_63 s_62.length cap_64), (.slice a_67 s_66.length cap_68)] ∧ Sl (Rep.int .u32) col_51 w_50 a_72 cap_73 n_71 ∧ Sl (Rep.int .u32) col_51 w_50 a_76 cap_77 n_75 ∧ Sl (Rep.int .u32) col_51 w_50 a_81 cap_82 n_80 ∧ Sl (Rep.int .u32) col_51 w_50 a_85 cap_86 n_84 ∧ Box 62 999 col_51 w_50 g3 #[(.bool n_70), (.slice a_72 n_71.length cap_73), (.slice a_76 n_75.length cap_77), (.bool n_79), (.slice a_81 n_80.length cap_82), (.slice a_85 n_84.length cap_86)] ∧ Sl (Rep.int .i64) col_51 w_50 a1 cap1 p1_order ∧ Sl Rep.str col_51 w_50 a0_0 cap0_0 p0_n.2.1 ∧ Sl (Rep.slice Rep.str) col_51 w_50 a0_2 cap0_2 p0_n.2.2.1 ∧ Sl (Rep.slice (Rep.int .i64)) col_51 w_50 a0_4 cap0_4 p0_n.2.2.2.1 ∧ Sl (Rep.slice (Rep.pair (Rep.pair Rep.bool (Rep.slice (Rep.int .u32))) (Rep.slice (Rep.int .u32)))) col_51 w_50 a0_6 cap0_6 p0_n.2.2.2.2 ∧ Box 28 1 col_51 w_50 g_1 #[(.string p0_n.1), (.slice a0_0 p0_n.2.1.length cap0_0), (.slice a0_2 p0_n.2.2.1.length cap0_2), (.slice a0_4 p0_n.2.2.2.1.length cap0_4), (.slice a0_6 p0_n.2.2.2.2.length cap0_6)] ∧ Own (Rep.int .u32) 114 9 col_51 w_50 a_90 cap_91 v_89 ∧ Own (Rep.int .u32) 114 10 col_51 w_50 a_94 cap_95 v_93 ∧ Own (Rep.int .u32) 114 11 col_51 w_50 a_99 cap_100 v_98 ∧ Own (Rep.int .u32) 114 12 col_51 w_50 a_103 cap_104 v_102 ∧ Box 62 2 col_51 w_50 g_6 #[(.bool v_88), (.slice a_90 v_89.length cap_91), (.slice a_94 v_93.length cap_95), (.bool v_97), (.slice a_99 v_98.length cap_100), (.slice a_103 v_102.length cap_104)] ∧ Own (Rep.int .i64) 3 3 col_51 w_50 a_107 cap_108 values_106 ∧ f 31 = (.int .i64 (k_48 : Int)) ∧ f 10 = (.pointer (some ⟨g_39, 0, none⟩)) ∧ f 2 = (.func (.func 124) #[] #[(.pointer (some ⟨g3, 0, none⟩))]) ∧ f 29 = (.slice a1 p1_order.length cap1) ∧ f 3 = (.pointer (some ⟨g_1, 0, none⟩)) ∧ f 30 = (.int .i64 (p1_order.length : Int)) ∧ f 7 = (.pointer (some ⟨g_6, 0, none⟩)) ∧ f 9 = (.slice a_107 values_106.length cap_108) ∧ f 1000000 = (enc [])) p1_order.length ⟨(frC 7 (frC 6 (frC 5 (frC 4 col_41)))), r_17.1.1, ra_19, rc_20, r_17.1.2, ra_22, rc_23, r_17.2, r_28.1.1, ra_30, rc_31, r_28.1.2, ra_33, rc_34, r_28.2, q3_v.1.1.1, a3_2, cap3_2, q3_v.1.1.2, a3_4, cap3_4, q3_v.1.2, q3_v.2.1.1, a3_6, cap3_6, q3_v.2.1.2, a3_8, cap3_8, q3_v.2.2, 0, false, none, 0, ([] : List Int), none, 0, ([] : List Int), false, none, 0, ([] : List Int), none, 0, ([] : List Int), a_12, p0_n.2.1.length, (List.replicate p0_n.2.1.length (0 : Int)), p1_order, rfl, rfl, hm, hst, rh_21, rh_24, rh_32, rh_35, hb_47, h3_2, h3_4, h3_6, h3_8, hb3, h1, h0_0, h0_2, h0_4, h0_6, hb_5, Own.nil, Own.nil, Own.nil, Own.nil, hb_10, h_16, rfl, rfl, rfl, rfl, rfl, rfl, rfl, rfl, rfl⟩ ?_
 clear hm; intro n f w_50 hI
 obtain ⟨col_51, s_52, a_54, cap_55, s_53, a_58, cap_59, s_57, s_61, a_63, cap_64, s_62, a_67, cap_68, s_66, n_70, a_72, cap_73, n_71, a_76, cap_77, n_75, n_79, a_81, cap_82, n_80, a_85, cap_86, n_84, k_48, v_88, a_90, cap_91, v_89, a_94, cap_95, v_93, v_97, a_99, cap_100, v_98, a_103, cap_104, v_102, a_107, cap_108, values_106, l_49, hn, hl, hm, hst, h_56, h_60, h_65, h_69, hb_47, h_74, h_78, h_83, h_87, hb3, h1, h0_0, h0_2, h0_4, h0_6, hb_5, h_92, h_96, h_101, h_105, hb_10, h_109, hs31, hs10, hs2, hs29, hs3, hs30, hs7, hs9, hs1000000⟩ := hI
 subst hn
 refine .lD 31 hs31 ?_
 refine .lD 10 hs10 ?_
 refine .lD 2 hs2 ?_
 refine .lD 29 hs29 ?_
 refine .lD 3 hs3 ?_
 refine .lD 30 hs30 ?_
 refine .lD 7 hs7 ?_
 refine .lD 9 hs9 ?_
 refine .lD 1000000 hs1000000 ?_
 clear hs31 hs10 hs2 hs29 hs3 hs30 hs7 hs9 hs1000000
 cases l_49 with
 | nil =>
  have hk : ¬ ((k_48 : Int) < (p1_order.length : Int)) := by have := List.drop_eq_nil_iff.1 hl; omega
  have hkb := decide_eq_false hk
  rw [m_code_cut_v2c124xssss_L1.eq_1] at hm
  refine wS (wR ?_)
  refine lV (.bool (decide ((k_48 : Int) < (p1_order.length : Int)))) (r_lss (k_48 : Int) (p1_order.length : Int) rfl rfl) ?_
  refine lN (wS ?_)
  refine wcondF (congrArg Value.bool hkb) ?_
  refine wexit (inB_hit ?_)
  refine wS ?_
  refine wmix (col := col_51) [(0, 1), (1, 0), (2, 1), (3, 2), (4, 1)] (by kernel_rfl) (by kernel_rfl) ?_
  refine xu (v := (.slice a_107 values_106.length cap_108)) rfl rfl (fun _ => r_move rfl) ?_
  refine xv (v := (.agg #[(.bool s_52), (.slice a_54 s_53.length cap_55), (.slice a_58 s_57.length cap_59), (.bool s_61), (.slice a_63 s_62.length cap_64), (.slice a_67 s_66.length cap_68)])) rfl rfl (fun _ hC => r_ldN Tryz.isAgg62 Tryz.sizeOf62 rfl rfl (hb_47.atN.gr (Grow.of_below (col := col_51) hC.below))) ?_
  refine xu (v := (.slice a_107 values_106.length cap_108)) rfl rfl (fun _ => r_assign rfl) ?_
  refine xe rfl rfl ?_
  intro w_112 hC0
  have hC : Grow col_51 w_50 col_51 w_112 := .of_below hC0.below
  replace hb_10 := hb_10.gr hC
  refine l_bstore (v := (.agg #[(.bool s_52), (.slice a_54 s_53.length cap_55), (.slice a_58 s_57.length cap_59), (.bool s_61), (.slice a_63 s_62.length cap_64), (.slice a_67 s_66.length cap_68)])) hb_10 Tryz.sizeOf62 rfl rfl (by intro u hu; simp only [Value.cells, List.mem_cons, List.not_mem_nil, or_false] at hu; rcases hu with rfl | rfl | rfl | rfl | rfl | rfl <;> rfl) rfl rfl ?_
  intro w_113 hk_114 hs_115 hb_116
  clear hb_10
  replace hb_116 : Box 62 2 col_51 w_113 g_6 #[(.bool s_52), (.slice a_54 s_53.length cap_55), (.slice a_58 s_57.length cap_59), (.bool s_61), (.slice a_63 s_62.length cap_64), (.slice a_67 s_66.length cap_68)] := hb_116
  refine lN ⟨fun w' => Grow col_51 w_113 col_51 w', Grow.refl _ _, fun h => absurd h (by decide), ?_⟩
  refine xu (v := (.bool true)) rfl rfl (fun _ => r_assign rfl) ?_
  refine xnil ?_
  replace h_56 := (h_56.gr hC).kp hk_114
  replace h_60 := (h_60.gr hC).kp hk_114
  replace h_65 := (h_65.gr hC).kp hk_114
  replace h_69 := (h_69.gr hC).kp hk_114
  replace h_109 := (h_109.gr hC).kp hk_114
  replace hst := (hst.grow hC).kp hk_114 hs_115
  intro w_117 hC
  replace hC : Grow col_51 w_113 col_51 w_117 := .of_below hC.below
  refine wret ?_
  cases hm
  replace h_56 := h_56.gr hC
  replace h_60 := h_60.gr hC
  replace h_65 := h_65.gr hC
  replace h_69 := h_69.gr hC
  replace h_109 := h_109.gr hC
  replace hb_116 := hb_116.gr hC
  replace hst := hst.grow hC
  exact ⟨rfl, _, res_tat rfl rfl rfl rfl Tryz.isAgg62 Tryz.sizeOf62 rfl rfl hb_116.atN rfl rfl, colF w0.heap.size col col_51 (fun n => bif Nat.beq n 3 then c1 else 0), a_107, cap_108, a_54, cap_55, a_58, cap_59, a_63, cap_64, a_67, cap_68, rfl, hst.fin (fun n => bif Nat.beq n 3 then c1 else 0), hst.finOwn (g := (fun n => bif Nat.beq n 3 then c1 else 0)) rfl h_109 (by decide) (by decide) rfl, hst.finSl (g := (fun n => bif Nat.beq n 3 then c1 else 0)) rfl h_56, hst.finSl (g := (fun n => bif Nat.beq n 3 then c1 else 0)) rfl h_60, hst.finSl (g := (fun n => bif Nat.beq n 3 then c1 else 0)) rfl h_65, hst.finSl (g := (fun n => bif Nat.beq n 3 then c1 else 0)) rfl h_69⟩
 | cons x_110 l_111 =>
  obtain ⟨hat, hl2_L1, hlt_L1⟩ := drop_get hl
  have hk : (k_48 : Int) < (p1_order.length : Int) := by omega
  have hkb := decide_eq_true hk
  rw [m_code_cut_v2c124xssss_L1.eq_2] at hm
  refine wS (wR ?_)
  refine lV (.bool (decide ((k_48 : Int) < (p1_order.length : Int)))) (r_lss (k_48 : Int) (p1_order.length : Int) rfl rfl) ?_
  refine lN (wS ?_)
  refine wcondT (congrArg Value.bool hkb) ?_
  refine wK (wS (wB (wS (wR ?_))))
  refine lV (sptr a1 (Int.toNat (k_48 : Int) * 1)) (r_idx Tryz.underlying33 Tryz.sizeOf3 rfl rfl (at?_some hat).1 (at?_some hat).2.1 (h1.addr hat)) ?_
  refine lV (.int .i64 x_110) (r_ld Tryz.isAgg3 rfl (h1.atInt hat)) ?_
  refine lA (.int .i64 x_110) ?_
  refine lN (wS (wR ?_))
  refine lA (.int .i64 0) ?_
  refine lN (wS (wS (wR ?_)))
  refine lV (.pointer ((some (⟨g_1, 0, none⟩ : Addr)).map (·.add 3))) (rF (sz := 1) (off := 3) Tryz.underlying28 rfl Tryz.sizeOf25 (by decide) rfl rfl ⟨_, _, rfl⟩) ?_
  refine lV (.slice a0_4 p0_n.2.2.2.1.length cap0_4) (r_ld Tryz.isAgg25 rfl ((hb_5.atN).nth (q := 3) (v := (.slice a0_4 p0_n.2.2.2.1.length cap0_4)) rfl)) ?_
  refine lM (.int .i64 x_110) ?_
  obtain ⟨e_118, hj_119, hm⟩ := bS hm
  refine lV (sptr a0_4 (Int.toNat x_110 * 1)) (r_idx Tryz.underlying25 Tryz.sizeOf33 rfl rfl (at?_some hj_119).1 (at?_some hj_119).2.1 (h0_4.addr hj_119)) ?_
  obtain ⟨_, hr_120, hA_121⟩ := h0_4.atN hj_119
  obtain ⟨⟨a_122, cap_123, rfl, h_124⟩, _⟩ := hr_120
  refine lV (.slice a_122 e_118.length cap_123) (r_ld Tryz.isAgg33 rfl hA_121.one) ?_
  refine lV (.int .i64 (e_118.length : Int)) (r_len Tryz.underlying33 rfl) ?_
  refine lM (.int .i64 0) ?_
  refine lN (wB ?_)
  refine wloop (fun n f w_127 => ∃ (col_128 : Col) (row_129 : Int) (k_125 : Nat) (l_126 : List Int), n = l_126.length ∧ e_118.drop k_125 = l_126 ∧ m_code_cut_v2c124xssss_L2 N p0_n s_52 s_53 s_57 s_61 s_62 s_66 n_70 n_71 n_75 n_79 n_80 n_84 v_88 v_89 v_93 v_97 v_98 v_102 values_106 (m_code_cut_v2c124xssss_L1 N p0_n l_111) x_110 l_126 row_129 = some r ∧ St w0 (col0 col) col_128 w_127 ∧ Sl (Rep.int .u32) col_128 w_127 a_54 cap_55 s_53 ∧ Sl (Rep.int .u32) col_128 w_127 a_58 cap_59 s_57 ∧ Sl (Rep.int .u32) col_128 w_127 a_63 cap_64 s_62 ∧ Sl (Rep.int .u32) col_128 w_127 a_67 cap_68 s_66 ∧ Box 62 8 col_128 w_127 g_39 #[(.bool s_52), (.slice a_54 s_53.length cap_55), (.slice a_58 s_57.length cap_59), (.bool s_61), (.slice a_63 s_62.length cap_64), (.slice a_67 s_66.length cap_68)] ∧ Sl (Rep.int .u32) col_128 w_127 a_72 cap_73 n_71 ∧ Sl (Rep.int .u32) col_128 w_127 a_76 cap_77 n_75 ∧ Sl (Rep.int .u32) col_128 w_127 a_81 cap_82 n_80 ∧ Sl (Rep.int .u32) col_128 w_127 a_85 cap_86 n_84 ∧ Box 62 999 col_128 w_127 g3 #[(.bool n_70), (.slice a_72 n_71.length cap_73), (.slice a_76 n_75.length cap_77), (.bool n_79), (.slice a_81 n_80.length cap_82), (.slice a_85 n_84.length cap_86)] ∧ Sl (Rep.int .i64) col_128 w_127 a1 cap1 p1_order ∧ Sl Rep.str col_128 w_127 a0_0 cap0_0 p0_n.2.1 ∧ Sl (Rep.slice Rep.str) col_128 w_127 a0_2 cap0_2 p0_n.2.2.1 ∧ Sl (Rep.slice (Rep.int .i64)) col_128 w_127 a0_4 cap0_4 p0_n.2.2.2.1 ∧ Sl (Rep.slice (Rep.pair (Rep.pair Rep.bool (Rep.slice (Rep.int .u32))) (Rep.slice (Rep.int .u32)))) col_128 w_127 a0_6 cap0_6 p0_n.2.2.2.2 ∧ Box 28 1 col_128 w_127 g_1 #[(.string p0_n.1), (.slice a0_0 p0_n.2.1.length cap0_0), (.slice a0_2 p0_n.2.2.1.length cap0_2), (.slice a0_4 p0_n.2.2.2.1.length cap0_4), (.slice a0_6 p0_n.2.2.2.2.length cap0_6)] ∧ Sl (Rep.int .i64) col_128 w_127 a_122 cap_123 e_118 ∧ Own (Rep.int .u32) 114 9 col_128 w_127 a_90 cap_91 v_89 ∧ Own (Rep.int .u32) 114 10 col_128 w_127 a_94 cap_95 v_93 ∧ Own (Rep.int .u32) 114 11 col_128 w_127 a_99 cap_100 v_98 ∧ Own (Rep.int .u32) 114 12 col_128 w_127 a_103 cap_104 v_102 ∧ Box 62 2 col_128 w_127 g_6 #[(.bool v_88), (.slice a_90 v_89.length cap_91), (.slice a_94 v_93.length cap_95), (.bool v_97), (.slice a_99 v_98.length cap_100), (.slice a_103 v_102.length cap_104)] ∧ Own (Rep.int .i64) 3 3 col_128 w_127 a_107 cap_108 values_106 ∧ f 41 = (.int .i64 (k_125 : Int)) ∧ f 10 = (.pointer (some ⟨g_39, 0, none⟩)) ∧ f 12 = (.int .i64 x_110) ∧ f 13 = (.int .i64 row_129) ∧ f 2 = (.func (.func 124) #[] #[(.pointer (some ⟨g3, 0, none⟩))]) ∧ f 29 = (.slice a1 p1_order.length cap1) ∧ f 3 = (.pointer (some ⟨g_1, 0, none⟩)) ∧ f 30 = (.int .i64 (p1_order.length : Int)) ∧ f 31 = (.int .i64 (k_48 : Int)) ∧ f 39 = (.slice a_122 e_118.length cap_123) ∧ f 40 = (.int .i64 (e_118.length : Int)) ∧ f 7 = (.pointer (some ⟨g_6, 0, none⟩)) ∧ f 9 = (.slice a_107 values_106.length cap_108) ∧ f 1000000 = (enc [])) e_118.length ⟨col_51, 0, 0, e_118, rfl, rfl, hm, hst, h_56, h_60, h_65, h_69, hb_47, h_74, h_78, h_83, h_87, hb3, h1, h0_0, h0_2, h0_4, h0_6, hb_5, h_124, h_92, h_96, h_101, h_105, hb_10, h_109, rfl, rfl, rfl, rfl, rfl, rfl, rfl, rfl, rfl, rfl, rfl, rfl, rfl, rfl⟩ ?_
  clear hm; intro n f w_127 hI
  obtain ⟨col_128, row_129, k_125, l_126, hn, hl, hm, hst, h_56, h_60, h_65, h_69, hb_47, h_74, h_78, h_83, h_87, hb3, h1, h0_0, h0_2, h0_4, h0_6, hb_5, h_124, h_92, h_96, h_101, h_105, hb_10, h_109, hs41, hs10, hs12, hs13, hs2, hs29, hs3, hs30, hs31, hs39, hs40, hs7, hs9, hs1000000⟩ := hI
  subst hn
  refine .lD 41 hs41 ?_
  refine .lD 10 hs10 ?_
  refine .lD 12 hs12 ?_
  refine .lD 13 hs13 ?_
  refine .lD 2 hs2 ?_
  refine .lD 29 hs29 ?_
  refine .lD 3 hs3 ?_
  refine .lD 30 hs30 ?_
  refine .lD 31 hs31 ?_
  refine .lD 39 hs39 ?_
  refine .lD 40 hs40 ?_
  refine .lD 7 hs7 ?_
  refine .lD 9 hs9 ?_
  refine .lD 1000000 hs1000000 ?_
  clear hs41 hs10 hs12 hs13 hs2 hs29 hs3 hs30 hs31 hs39 hs40 hs7 hs9 hs1000000
  cases l_126 with
  | nil =>
   have hk : ¬ ((k_125 : Int) < (e_118.length : Int)) := by have := List.drop_eq_nil_iff.1 hl; omega
   have hkb := decide_eq_false hk
   rw [m_code_cut_v2c124xssss_L2.eq_1] at hm
   refine wS (wR ?_)
   refine lV (.bool (decide ((k_125 : Int) < (e_118.length : Int)))) (r_lss (k_125 : Int) (e_118.length : Int) rfl rfl) ?_
   refine lN (wS ?_)
   refine wcondF (congrArg Value.bool hkb) ?_
   refine wexit (inB_hit ?_)
   refine wS (wR ?_)
   refine lV (.pointer ((some (⟨g_39, 0, none⟩ : Addr)).map (·.add 3))) (rF (sz := 3) (off := 3) Tryz.underlying62 rfl Tryz.sizeOf40 (by decide) rfl rfl ⟨_, _, rfl⟩) ?_
   refine lV (.agg #[(.bool s_61), (.slice a_63 s_62.length cap_64), (.slice a_67 s_66.length cap_68)]) (r_ldN Tryz.isAgg40 Tryz.sizeOf40 rfl rfl ((hb_47.atN).part 3 3 _ rfl)) ?_
   refine lV (.pointer ((some (⟨g_39, 0, none⟩ : Addr)).map (·.add 0))) (rF (sz := 3) (off := 0) Tryz.underlying62 rfl Tryz.sizeOf40 (by decide) rfl rfl ⟨_, _, rfl⟩) ?_
   refine lV (.agg #[(.bool s_52), (.slice a_54 s_53.length cap_55), (.slice a_58 s_57.length cap_59)]) (r_ldN Tryz.isAgg40 Tryz.sizeOf40 rfl rfl ((hb_47.atN).part 0 3 _ rfl)) ?_
   obtain ⟨r_132, hr_133, hm⟩ := bS hm
   refine lc rfl rfl (r_call2 Tryz.call61 rfl rfl) (c_frac_Sub N 13 14 col_128 _ a_63 cap_64 a_67 cap_68 ((s_61, s_62), s_66) a_54 cap_55 a_58 cap_59 ((s_52, s_53), s_57) h_65 h_69 h_56 h_60 r_132 hr_133) ?_
   rintro _ w_140 ⟨col_142, ra_134, rc_135, ra_137, rc_138, rfl, hg_141, rh_136, rh_139⟩
   refine ⟨_, rfl, ?_⟩
   refine l_alloc (col := col_142) (v := (.agg #[(.bool false), (.slice none (([] : List Int).length) 0), (.slice none (([] : List Int).length) 0)])) 15 rfl Tryz.zeroValue40 ?_
   intro g_143 w_144 col_145 hg_146 hb_147
   replace hb_147 : Box 40 15 col_145 w_144 g_143 #[(.bool false), (.slice none (([] : List Int).length) 0), (.slice none (([] : List Int).length) 0)] := hb_147
   refine l_bstore (v := (.agg #[(.bool r_132.1.1), (.slice ra_134 r_132.1.2.length rc_135), (.slice ra_137 r_132.2.length rc_138)])) hb_147 Tryz.sizeOf40 rfl rfl (by intro u hu; simp only [Value.cells, List.mem_cons, List.not_mem_nil, or_false] at hu; rcases hu with rfl | rfl | rfl <;> rfl) rfl rfl ?_
   intro w_148 hk_149 hs_150 hb_151
   clear hb_147
   replace hb_151 : Box 40 15 col_145 w_148 g_143 #[(.bool r_132.1.1), (.slice ra_134 r_132.1.2.length rc_135), (.slice ra_137 r_132.2.length rc_138)] := hb_151
   refine lN (wS (wR ?_))
   refine lV (.pointer ((some (⟨g_39, 0, none⟩ : Addr)).map (·.add 0))) (rF (sz := 3) (off := 0) Tryz.underlying62 rfl Tryz.sizeOf40 (by decide) rfl rfl ⟨_, _, rfl⟩) ?_
   replace hb_47 := ((hb_47.gr hg_141).gr hg_146).kp hk_149
   refine lV (.agg #[(.bool s_52), (.slice a_54 s_53.length cap_55), (.slice a_58 s_57.length cap_59)]) (r_ldN Tryz.isAgg40 Tryz.sizeOf40 rfl rfl ((hb_47.atN).part 0 3 _ rfl)) ?_
   refine l_alloc (col := col_145) (v := (.agg #[(.bool false), (.slice none (([] : List Int).length) 0), (.slice none (([] : List Int).length) 0)])) 16 rfl Tryz.zeroValue40 ?_
   intro g_152 w_153 col_154 hg_155 hb_156
   replace hb_156 : Box 40 16 col_154 w_153 g_152 #[(.bool false), (.slice none (([] : List Int).length) 0), (.slice none (([] : List Int).length) 0)] := hb_156
   refine l_bstore (v := (.agg #[(.bool s_52), (.slice a_54 s_53.length cap_55), (.slice a_58 s_57.length cap_59)])) hb_156 Tryz.sizeOf40 rfl rfl (by intro u hu; simp only [Value.cells, List.mem_cons, List.not_mem_nil, or_false] at hu; rcases hu with rfl | rfl | rfl <;> rfl) rfl rfl ?_
   intro w_157 hk_158 hs_159 hb_160
   clear hb_156
   replace hb_160 : Box 40 16 col_154 w_157 g_152 #[(.bool s_52), (.slice a_54 s_53.length cap_55), (.slice a_58 s_57.length cap_59)] := hb_160
   refine lN (wS (wR ?_))
   refine lA (.slice none (([] : List (((Bool × (List Int)) × (List Int)) × ((Bool × (List Int)) × (List Int)))).length) 0) ?_
   refine lN (wS (wS (wR ?_)))
   refine lV (.pointer ((some (⟨g_1, 0, none⟩ : Addr)).map (·.add 2))) (rF (sz := 1) (off := 2) Tryz.underlying28 rfl Tryz.sizeOf24 (by decide) rfl rfl ⟨_, _, rfl⟩) ?_
   replace hb_5 := ((((hb_5.gr hg_141).gr hg_146).kp hk_149).gr hg_155).kp hk_158
   refine lV (.slice a0_2 p0_n.2.2.1.length cap0_2) (r_ld Tryz.isAgg24 rfl ((hb_5.atN).nth (q := 2) (v := (.slice a0_2 p0_n.2.2.1.length cap0_2)) rfl)) ?_
   refine lM (.int .i64 x_110) ?_
   obtain ⟨e_161, hj_162, hm⟩ := bS hm
   replace h0_2 := ((((h0_2.gr hg_141).gr hg_146).kp hk_149).gr hg_155).kp hk_158
   refine lV (sptr a0_2 (Int.toNat x_110 * 1)) (r_idx Tryz.underlying24 Tryz.sizeOf23 rfl rfl (at?_some hj_162).1 (at?_some hj_162).2.1 (h0_2.addr hj_162)) ?_
   obtain ⟨_, hr_163, hA_164⟩ := h0_2.atN hj_162
   obtain ⟨⟨a_165, cap_166, rfl, h_167⟩, _⟩ := hr_163
   refine lV (.slice a_165 e_161.length cap_166) (r_ld Tryz.isAgg23 rfl hA_164.one) ?_
   refine lV (.int .i64 (e_161.length : Int)) (r_len Tryz.underlying23 rfl) ?_
   refine lM (.int .i64 0) ?_
   refine lN (wB ?_)
   replace h_56 := ((((h_56.gr hg_141).gr hg_146).kp hk_149).gr hg_155).kp hk_158
   replace h_60 := ((((h_60.gr hg_141).gr hg_146).kp hk_149).gr hg_155).kp hk_158
   replace h_65 := ((((h_65.gr hg_141).gr hg_146).kp hk_149).gr hg_155).kp hk_158
   replace h_69 := ((((h_69.gr hg_141).gr hg_146).kp hk_149).gr hg_155).kp hk_158
   replace h_74 := ((((h_74.gr hg_141).gr hg_146).kp hk_149).gr hg_155).kp hk_158
   replace h_78 := ((((h_78.gr hg_141).gr hg_146).kp hk_149).gr hg_155).kp hk_158
   replace h_83 := ((((h_83.gr hg_141).gr hg_146).kp hk_149).gr hg_155).kp hk_158
   replace h_87 := ((((h_87.gr hg_141).gr hg_146).kp hk_149).gr hg_155).kp hk_158
   replace h1 := ((((h1.gr hg_141).gr hg_146).kp hk_149).gr hg_155).kp hk_158
   replace h0_0 := ((((h0_0.gr hg_141).gr hg_146).kp hk_149).gr hg_155).kp hk_158
   replace h0_4 := ((((h0_4.gr hg_141).gr hg_146).kp hk_149).gr hg_155).kp hk_158
   replace h0_6 := ((((h0_6.gr hg_141).gr hg_146).kp hk_149).gr hg_155).kp hk_158
   replace h_92 := ((((h_92.gr hg_141).gr hg_146).kp hk_149).gr hg_155).kp hk_158
   replace h_96 := ((((h_96.gr hg_141).gr hg_146).kp hk_149).gr hg_155).kp hk_158
   replace h_101 := ((((h_101.gr hg_141).gr hg_146).kp hk_149).gr hg_155).kp hk_158
   replace h_105 := ((((h_105.gr hg_141).gr hg_146).kp hk_149).gr hg_155).kp hk_158
   replace h_109 := ((((h_109.gr hg_141).gr hg_146).kp hk_149).gr hg_155).kp hk_158
   replace hb3 := ((((hb3.gr hg_141).gr hg_146).kp hk_149).gr hg_155).kp hk_158
   replace hb_10 := ((((hb_10.gr hg_141).gr hg_146).kp hk_149).gr hg_155).kp hk_158
   replace hst := ((((hst.grow hg_141).grow hg_146).kp hk_149 hs_150).grow hg_155).kp hk_158 hs_159
   replace rh_136 := (((rh_136.gr hg_146).kp hk_149).gr hg_155).kp hk_158
   replace rh_139 := (((rh_139.gr hg_146).kp hk_149).gr hg_155).kp hk_158
   replace hb_47 := (hb_47.gr hg_155).kp hk_158
   replace hb_151 := (hb_151.gr hg_155).kp hk_158
   refine wloop (fun n f w_169 => ∃ (col_170 : Col) (at_171 : Bool) (a_173 : Option Addr) (cap_174 : Nat) (at_172 : List Int) (a_177 : Option Addr) (cap_178 : Nat) (at_176 : List Int) (a_181 : Option Addr) (cap_182 : Nat) (parts_180 : List (((Bool × (List Int)) × (List Int)) × ((Bool × (List Int)) × (List Int)))) (v_184 : Int) (n_168 : Nat), n_168 = n ∧ m_code_cut_v2c124xssss_L3 N p0_n n_70 n_71 n_75 n_79 n_80 n_84 v_88 v_89 v_93 v_97 v_98 v_102 values_106 (m_code_cut_v2c124xssss_L1 N p0_n l_111) x_110 row_129 r_132 e_161 n_168 at_171 at_172 at_176 parts_180 v_184 = some r ∧ St w0 (col0 col) col_170 w_169 ∧ Sl (Rep.int .u32) col_170 w_169 a_54 cap_55 s_53 ∧ Sl (Rep.int .u32) col_170 w_169 a_58 cap_59 s_57 ∧ Sl (Rep.int .u32) col_170 w_169 a_63 cap_64 s_62 ∧ Sl (Rep.int .u32) col_170 w_169 a_67 cap_68 s_66 ∧ Box 62 8 col_170 w_169 g_39 #[(.bool s_52), (.slice a_54 s_53.length cap_55), (.slice a_58 s_57.length cap_59), (.bool s_61), (.slice a_63 s_62.length cap_64), (.slice a_67 s_66.length cap_68)] ∧ Own (Rep.int .u32) 114 13 col_170 w_169 ra_134 rc_135 r_132.1.2 ∧ Own (Rep.int .u32) 114 14 col_170 w_169 ra_137 rc_138 r_132.2 ∧ Box 40 15 col_170 w_169 g_143 #[(.bool r_132.1.1), (.slice ra_134 r_132.1.2.length rc_135), (.slice ra_137 r_132.2.length rc_138)] ∧ Sl (Rep.int .u32) col_170 w_169 a_173 cap_174 at_172 ∧ Sl (Rep.int .u32) col_170 w_169 a_177 cap_178 at_176 ∧ Box 40 16 col_170 w_169 g_152 #[(.bool at_171), (.slice a_173 at_172.length cap_174), (.slice a_177 at_176.length cap_178)] ∧ Own (Rep.pair (Rep.pair (Rep.pair Rep.bool (Rep.slice (Rep.int .u32))) (Rep.slice (Rep.int .u32))) (Rep.pair (Rep.pair Rep.bool (Rep.slice (Rep.int .u32))) (Rep.slice (Rep.int .u32)))) 62 17 col_170 w_169 a_181 cap_182 parts_180 ∧ Sl (Rep.int .u32) col_170 w_169 a_72 cap_73 n_71 ∧ Sl (Rep.int .u32) col_170 w_169 a_76 cap_77 n_75 ∧ Sl (Rep.int .u32) col_170 w_169 a_81 cap_82 n_80 ∧ Sl (Rep.int .u32) col_170 w_169 a_85 cap_86 n_84 ∧ Box 62 999 col_170 w_169 g3 #[(.bool n_70), (.slice a_72 n_71.length cap_73), (.slice a_76 n_75.length cap_77), (.bool n_79), (.slice a_81 n_80.length cap_82), (.slice a_85 n_84.length cap_86)] ∧ Sl (Rep.int .i64) col_170 w_169 a1 cap1 p1_order ∧ Sl Rep.str col_170 w_169 a0_0 cap0_0 p0_n.2.1 ∧ Sl (Rep.slice Rep.str) col_170 w_169 a0_2 cap0_2 p0_n.2.2.1 ∧ Sl (Rep.slice (Rep.int .i64)) col_170 w_169 a0_4 cap0_4 p0_n.2.2.2.1 ∧ Sl (Rep.slice (Rep.pair (Rep.pair Rep.bool (Rep.slice (Rep.int .u32))) (Rep.slice (Rep.int .u32)))) col_170 w_169 a0_6 cap0_6 p0_n.2.2.2.2 ∧ Box 28 1 col_170 w_169 g_1 #[(.string p0_n.1), (.slice a0_0 p0_n.2.1.length cap0_0), (.slice a0_2 p0_n.2.2.1.length cap0_2), (.slice a0_4 p0_n.2.2.2.1.length cap0_4), (.slice a0_6 p0_n.2.2.2.2.length cap0_6)] ∧ Own (Rep.int .u32) 114 9 col_170 w_169 a_90 cap_91 v_89 ∧ Own (Rep.int .u32) 114 10 col_170 w_169 a_94 cap_95 v_93 ∧ Own (Rep.int .u32) 114 11 col_170 w_169 a_99 cap_100 v_98 ∧ Own (Rep.int .u32) 114 12 col_170 w_169 a_103 cap_104 v_102 ∧ Box 62 2 col_170 w_169 g_6 #[(.bool v_88), (.slice a_90 v_89.length cap_91), (.slice a_94 v_93.length cap_95), (.bool v_97), (.slice a_99 v_98.length cap_100), (.slice a_103 v_102.length cap_104)] ∧ Own (Rep.int .i64) 3 3 col_170 w_169 a_107 cap_108 values_106 ∧ f 10 = (.pointer (some ⟨g_39, 0, none⟩)) ∧ f 12 = (.int .i64 x_110) ∧ f 13 = (.int .i64 row_129) ∧ f 16 = (.pointer (some ⟨g_143, 0, none⟩)) ∧ f 17 = (.pointer (some ⟨g_152, 0, none⟩)) ∧ f 18 = (.slice a_181 parts_180.length cap_182) ∧ f 2 = (.func (.func 124) #[] #[(.pointer (some ⟨g3, 0, none⟩))]) ∧ f 29 = (.slice a1 p1_order.length cap1) ∧ f 3 = (.pointer (some ⟨g_1, 0, none⟩)) ∧ f 30 = (.int .i64 (p1_order.length : Int)) ∧ f 31 = (.int .i64 (k_48 : Int)) ∧ f 7 = (.pointer (some ⟨g_6, 0, none⟩)) ∧ f 71 = (.int .i64 (e_161.length : Int)) ∧ f 72 = (.int .i64 v_184) ∧ f 9 = (.slice a_107 values_106.length cap_108) ∧ f 1000000 = (enc [])) N ⟨col_154, s_52, a_54, cap_55, s_53, a_58, cap_59, s_57, none, 0, ([] : List (((Bool × (List Int)) × (List Int)) × ((Bool × (List Int)) × (List Int)))), 0, N, rfl, hm, hst, h_56, h_60, h_65, h_69, hb_47, rh_136, rh_139, hb_151, h_56, h_60, hb_160, Own.nil, h_74, h_78, h_83, h_87, hb3, h1, h0_0, h0_2, h0_4, h0_6, hb_5, h_92, h_96, h_101, h_105, hb_10, h_109, rfl, rfl, rfl, rfl, rfl, rfl, rfl, rfl, rfl, rfl, rfl, rfl, rfl, rfl, rfl, rfl⟩ ?_
   clear hm; intro n f w_169 hI
   obtain ⟨col_170, at_171, a_173, cap_174, at_172, a_177, cap_178, at_176, a_181, cap_182, parts_180, v_184, n_168, hn, hm, hst, h_56, h_60, h_65, h_69, hb_47, rh_136, rh_139, hb_151, h_175, h_179, hb_160, h_183, h_74, h_78, h_83, h_87, hb3, h1, h0_0, h0_2, h0_4, h0_6, hb_5, h_92, h_96, h_101, h_105, hb_10, h_109, hs10, hs12, hs13, hs16, hs17, hs18, hs2, hs29, hs3, hs30, hs31, hs7, hs71, hs72, hs9, hs1000000⟩ := hI
   subst hn
   refine .lD 10 hs10 ?_
   refine .lD 12 hs12 ?_
   refine .lD 13 hs13 ?_
   refine .lD 16 hs16 ?_
   refine .lD 17 hs17 ?_
   refine .lD 18 hs18 ?_
   refine .lD 2 hs2 ?_
   refine .lD 29 hs29 ?_
   refine .lD 3 hs3 ?_
   refine .lD 30 hs30 ?_
   refine .lD 31 hs31 ?_
   refine .lD 7 hs7 ?_
   refine .lD 71 hs71 ?_
   refine .lD 72 hs72 ?_
   refine .lD 9 hs9 ?_
   refine .lD 1000000 hs1000000 ?_
   clear hs10 hs12 hs13 hs16 hs17 hs18 hs2 hs29 hs3 hs30 hs31 hs7 hs71 hs72 hs9 hs1000000
   cases n_168 with
   | zero => rw [m_code_cut_v2c124xssss_L3.eq_1] at hm; cases hm
   | succ n_168 =>
    rw [m_code_cut_v2c124xssss_L3.eq_2] at hm
    refine wS (wR ?_)
    refine lV (.bool (decide (v_184 < (e_161.length : Int)))) (r_lss v_184 (e_161.length : Int) rfl rfl) ?_
    refine lN (wS ?_)
    refine wcond (decide (v_184 < (e_161.length : Int))) rfl (fun hb => ?_) (fun hb => ?_)
    ·rw [if_pos hb] at hm
     clear hb
     refine wK (wS (wB (wS (wR ?_))))
     refine lM (.int .i64 v_184) ?_
     refine lA (.int .i64 v_184) ?_
     refine lN (wS ?_)
     have hk_185 := KeepP.clip (fun _ => false) col_170 w_169
     refine wmixF (col := col_170) [(0, 0), (1, 0), (2, 1), (3, 0), (4, 1), (5, 1), (6, 0), (7, 1), (8, 1), (9, 0), (10, 1), (11, 1), (12, 0), (13, 1), (14, 1), (15, 1), (16, 1), (17, 1), (18, 0), (19, 3), (20, 3), (21, 4), (22, 2)] (by kernel_rfl) (by kernel_rfl) ⟨fun h => absurd h (by decide), fun h => absurd h (by decide), fun h => absurd h (by decide), fun h => absurd h (by decide), fun h => absurd h (by decide), fun h => absurd h (by decide), fun h => absurd h (by decide), fun h => absurd h (by decide), fun h => absurd h (by decide), fun h => absurd h (by decide), fun h => absurd h (by decide), fun h => absurd h (by decide), fun h => absurd h (by decide), fun h => absurd h (by decide), fun h => absurd h (by decide), fun h => absurd h (by decide), fun h => absurd h (by decide), fun h => absurd h (by decide), fun h => absurd h (by decide), fun h => absurd h (by decide), fun h => absurd h (by decide), fun _ => ⟨_, _, _, rfl, free_alloc Tryz.zeroValue40⟩, fun h => absurd h (by decide), trivial⟩ ?_
     replace hb_160 := hb_160.kpp hk_185
     refine xvF (v := (.agg #[(.bool at_171), (.slice a_173 at_172.length cap_174), (.slice a_177 at_176.length cap_178)])) rfl rfl (fun _ hC => r_ldN Tryz.isAgg40 Tryz.sizeOf40 rfl rfl (hb_160.atN.gr (Grow.of_below (col := (clipC w_169 col_170)) hC.below))) ?_
     replace hb_151 := hb_151.kpp hk_185
     refine xvF (v := (.agg #[(.bool r_132.1.1), (.slice ra_134 r_132.1.2.length rc_135), (.slice ra_137 r_132.2.length rc_138)])) rfl rfl (fun _ hC => r_ldN Tryz.isAgg40 Tryz.sizeOf40 rfl rfl (hb_151.atN.gr (Grow.of_below (col := (clipC w_169 col_170)) hC.below))) ?_
     refine xuF (v := (.pointer ((some (⟨g_1, 0, none⟩ : Addr)).map (·.add 4)))) rfl rfl (fun _ => rF (sz := 1) (off := 4) Tryz.underlying28 rfl Tryz.sizeOf26 (by decide) rfl rfl ⟨_, _, rfl⟩) ?_
     replace hb_5 := hb_5.kpp hk_185
     refine xvF (v := (.slice a0_6 p0_n.2.2.2.2.length cap0_6)) rfl rfl (fun _ hC => r_ld Tryz.isAgg26 rfl (((hb_5.atN).nth (q := 4) (v := (.slice a0_6 p0_n.2.2.2.2.length cap0_6)) rfl).gr (Grow.of_below (col := (clipC w_169 col_170)) hC.below))) ?_
     refine xuF (v := (.int .i64 x_110)) rfl rfl (fun _ => r_move rfl) ?_
     obtain ⟨e_186, hj_187, hm⟩ := bS hm
     replace h0_6 := h0_6.kpp hk_185
     refine xuF (v := (sptr a0_6 (Int.toNat x_110 * 1))) rfl rfl (fun _ => r_idx Tryz.underlying26 Tryz.sizeOf51 rfl rfl (at?_some hj_187).1 (at?_some hj_187).2.1 (h0_6.addr hj_187)) ?_
     obtain ⟨_, hr_188, hA_189⟩ := h0_6.atN hj_187
     obtain ⟨⟨a_190, cap_191, rfl, h_192⟩, _⟩ := hr_188
     refine xvF (v := (.slice a_190 e_186.length cap_191)) rfl rfl (fun _ hC => r_ld Tryz.isAgg51 rfl (hA_189.one.gr (Grow.of_below (col := (clipC w_169 col_170)) hC.below))) ?_
     refine xuF (v := (.int .i64 row_129)) rfl rfl (fun _ => r_move rfl) ?_
     refine xuF (v := (.pointer ((some (⟨g_1, 0, none⟩ : Addr)).map (·.add 2)))) rfl rfl (fun _ => rF (sz := 1) (off := 2) Tryz.underlying28 rfl Tryz.sizeOf24 (by decide) rfl rfl ⟨_, _, rfl⟩) ?_
     refine xvF (v := (.slice a0_2 p0_n.2.2.1.length cap0_2)) rfl rfl (fun _ hC => r_ld Tryz.isAgg24 rfl (((hb_5.atN).nth (q := 2) (v := (.slice a0_2 p0_n.2.2.1.length cap0_2)) rfl).gr (Grow.of_below (col := (clipC w_169 col_170)) hC.below))) ?_
     refine xuF (v := (.int .i64 x_110)) rfl rfl (fun _ => r_move rfl) ?_
     obtain ⟨e_193, hj_194, hm⟩ := bS hm
     replace h0_2 := h0_2.kpp hk_185
     refine xuF (v := (sptr a0_2 (Int.toNat x_110 * 1))) rfl rfl (fun _ => r_idx Tryz.underlying24 Tryz.sizeOf23 rfl rfl (at?_some hj_194).1 (at?_some hj_194).2.1 (h0_2.addr hj_194)) ?_
     obtain ⟨_, hr_195, hA_196⟩ := h0_2.atN hj_194
     obtain ⟨⟨a_197, cap_198, rfl, h_199⟩, _⟩ := hr_195
     refine xvF (v := (.slice a_197 e_193.length cap_198)) rfl rfl (fun _ hC => r_ld Tryz.isAgg23 rfl (hA_196.one.gr (Grow.of_below (col := (clipC w_169 col_170)) hC.below))) ?_
     refine xuF (v := (.int .i64 (e_193.length : Int))) rfl rfl (fun _ => r_len Tryz.underlying23 rfl) ?_
     refine xuF (v := (.int .i64 (IntKind.i64.wrap (row_129 * (e_193.length : Int))))) rfl rfl (fun _ => r_mul row_129 (e_193.length : Int) rfl rfl) ?_
     refine xuF (v := (.int .i64 v_184)) rfl rfl (fun _ => r_move rfl) ?_
     refine xuF (v := (.int .i64 (IntKind.i64.wrap ((IntKind.i64.wrap (row_129 * (e_193.length : Int))) + v_184)))) rfl rfl (fun _ => r_add (IntKind.i64.wrap (row_129 * (e_193.length : Int))) v_184 rfl rfl) ?_
     obtain ⟨e_200, hj_201, hm⟩ := bS hm
     refine xuF (v := (sptr a_190 (Int.toNat (IntKind.i64.wrap ((IntKind.i64.wrap (row_129 * (e_193.length : Int))) + v_184)) * 3))) rfl rfl (fun _ => r_idx Tryz.underlying51 Tryz.sizeOf40 rfl rfl (at?_some hj_201).1 (at?_some hj_201).2.1 (h_192.addr hj_201)) ?_
     obtain ⟨_, hr_202, hA_203⟩ := h_192.atN hj_201
     obtain ⟨_, _, rfl, hp_204, hp_205⟩ := rd_pair hr_202
     obtain ⟨_, _, rfl, hp_206, hp_207⟩ := rd_pair hp_204
     obtain ⟨rfl, _⟩ := hp_206
     obtain ⟨⟨a_208, cap_209, rfl, h_210⟩, _⟩ := hp_207
     obtain ⟨⟨a_211, cap_212, rfl, h_213⟩, _⟩ := hp_205
     refine xvF (v := (.agg #[(.bool e_200.1.1), (.slice a_208 e_200.1.2.length cap_209), (.slice a_211 e_200.2.length cap_212)])) rfl rfl (fun _ hC => r_ldN Tryz.isAgg40 Tryz.sizeOf40 rfl rfl (hA_203.gr (Grow.of_below (col := (clipC w_169 col_170)) hC.below))) ?_
     refine xeF rfl rfl ?_
     intro w_214 hC0
     have hC : Grow (clipC w_169 col_170) w_169 (clipC w_169 col_170) w_214 := .of_below hC0.below
     obtain ⟨r_215, hr_216, hm⟩ := bS hm
     replace rh_136 := (rh_136.kpp hk_185).gr hC
     replace rh_139 := (rh_139.kpp hk_185).gr hC
     replace h_210 := h_210.gr hC
     replace h_213 := h_213.gr hC
     refine lc rfl rfl (r_call2 Tryz.call35 rfl rfl) (c_frac_Mul N 18 19 (frC 14 (frC 13 (clipC w_169 col_170))) _ ra_134 rc_135 ra_137 rc_138 ((r_132.1.1, r_132.1.2), r_132.2) a_208 cap_209 a_211 cap_212 ((e_200.1.1, e_200.1.2), e_200.2) ((rh_136.toSlF (Froz.int .u32)).froz 14) ((rh_139.froz 13 (by decide)).toSlF (Froz.int .u32)) ((h_210.froz 13).froz 14) ((h_213.froz 13).froz 14) r_215 hr_216) ?_
     rintro _ w_223 ⟨col_225, ra_217, rc_218, ra_220, rc_221, rfl, hg_224, rh_219, rh_222⟩
     refine ⟨_, rfl, ?_⟩
     replace rh_219 := rh_219.thaw (flat_int .u32) hg_224 (((Fz.refl (col := (clipC w_169 col_170))).froz 13).froz 14) (by decide)
     replace rh_222 := rh_222.thaw (flat_int .u32) hg_224 (((Fz.refl (col := (clipC w_169 col_170))).froz 13).froz 14) (by decide)
     replace hg_224 := hg_224.thawR (col := (clipC w_169 col_170))
     generalize colR w_214.heap.size (clipC w_169 col_170) col_225 = col_226 at *
     replace h1 := ((h1.kpp hk_185).gr hC).gr hg_224
     refine lN ⟨fun w' => Grow (clipC w_223 col_226) w_223 (clipC w_223 col_226) w', fun g => (clipC w_223 col_226) g = 497, Grow.refl _ _, good_clip, fun _ => ⟨fun _ h => cls hC0 hg_224 h, fun b hb => hg_224.below.block b hb, fun g h1 h2 => fcl hg_224 g h1 (by first | exact h2 | (simp only [frC, rcC, h2]; rfl))⟩, ?_⟩
     have hk_227 := KeepP.clip (fun _ => false) col_226 w_223
     refine xeF rfl rfl ?_
     intro w_228 hC0
     replace h_56 := (((h_56.kpp hk_185).gr hC).gr hg_224).kpp hk_227
     replace h_60 := (((h_60.kpp hk_185).gr hC).gr hg_224).kpp hk_227
     replace h_65 := (((h_65.kpp hk_185).gr hC).gr hg_224).kpp hk_227
     replace h_69 := (((h_69.kpp hk_185).gr hC).gr hg_224).kpp hk_227
     replace h_175 := (((h_175.kpp hk_185).gr hC).gr hg_224).kpp hk_227
     replace h_179 := (((h_179.kpp hk_185).gr hC).gr hg_224).kpp hk_227
     replace h_183 := (((h_183.kpp hk_185).gr hC).gr hg_224).kpp hk_227
     replace h_74 := (((h_74.kpp hk_185).gr hC).gr hg_224).kpp hk_227
     replace h_78 := (((h_78.kpp hk_185).gr hC).gr hg_224).kpp hk_227
     replace h_83 := (((h_83.kpp hk_185).gr hC).gr hg_224).kpp hk_227
     replace h_87 := (((h_87.kpp hk_185).gr hC).gr hg_224).kpp hk_227
     replace h0_0 := (((h0_0.kpp hk_185).gr hC).gr hg_224).kpp hk_227
     replace h0_4 := (((h0_4.kpp hk_185).gr hC).gr hg_224).kpp hk_227
     replace h_92 := (((h_92.kpp hk_185).gr hC).gr hg_224).kpp hk_227
     replace h_96 := (((h_96.kpp hk_185).gr hC).gr hg_224).kpp hk_227
     replace h_101 := (((h_101.kpp hk_185).gr hC).gr hg_224).kpp hk_227
     replace h_105 := (((h_105.kpp hk_185).gr hC).gr hg_224).kpp hk_227
     replace h_109 := (((h_109.kpp hk_185).gr hC).gr hg_224).kpp hk_227
     replace hb_47 := (((hb_47.kpp hk_185).gr hC).gr hg_224).kpp hk_227
     replace hb3 := (((hb3.kpp hk_185).gr hC).gr hg_224).kpp hk_227
     replace hb_10 := (((hb_10.kpp hk_185).gr hC).gr hg_224).kpp hk_227
     replace hst := (((hst.kpp hk_185).grow hC).grow hg_224).kpp hk_227
     replace h0_2 := ((h0_2.gr hC).gr hg_224).kpp hk_227
     replace h0_6 := ((h0_6.gr hC).gr hg_224).kpp hk_227
     replace hb_151 := ((hb_151.gr hC).gr hg_224).kpp hk_227
     replace hb_160 := ((hb_160.gr hC).gr hg_224).kpp hk_227
     replace hb_5 := ((hb_5.gr hC).gr hg_224).kpp hk_227
     have hC : Grow (clipC w_223 col_226) w_223 (clipC w_223 col_226) w_228 := .of_below hC0.below
     obtain ⟨r_229, hr_230, hm⟩ := bS hm
     replace rh_219 := (rh_219.kpp hk_227).gr hC
     replace rh_222 := (rh_222.kpp hk_227).gr hC
     replace h_175 := h_175.gr hC
     replace h_179 := h_179.gr hC
     refine lc rfl rfl (r_call2 Tryz.call27 rfl rfl) (c_frac_Add N 20 21 (frC 19 (frC 18 (clipC w_223 col_226))) _ a_173 cap_174 a_177 cap_178 ((at_171, at_172), at_176) ra_217 rc_218 ra_220 rc_221 ((r_215.1.1, r_215.1.2), r_215.2) ((h_175.froz 18).froz 19) ((h_179.froz 18).froz 19) ((rh_219.toSlF (Froz.int .u32)).froz 19) ((rh_222.froz 18 (by decide)).toSlF (Froz.int .u32)) r_229 hr_230) ?_
     rintro _ w_237 ⟨col_239, ra_231, rc_232, ra_234, rc_235, rfl, hg_238, rh_233, rh_236⟩
     refine ⟨_, rfl, ?_⟩
     replace rh_233 := rh_233.thaw (flat_int .u32) hg_238 (((Fz.refl (col := (clipC w_223 col_226))).froz 18).froz 19) (by decide)
     replace rh_236 := rh_236.thaw (flat_int .u32) hg_238 (((Fz.refl (col := (clipC w_223 col_226))).froz 18).froz 19) (by decide)
     replace hg_238 := hg_238.thawR (col := (clipC w_223 col_226))
     generalize colR w_228.heap.size (clipC w_223 col_226) col_239 = col_240 at *
     replace h1 := ((h1.kpp hk_227).gr hC).gr hg_238
     refine lN ⟨fun w' => Grow (clipC w_237 col_240) w_237 (clipC w_237 col_240) w', fun g => (clipC w_237 col_240) g = 497, Grow.refl _ _, good_clip, fun _ => ⟨fun _ h => cls hC0 hg_238 h, fun b hb => hg_238.below.block b hb, fun g h1 h2 => fcl hg_238 g h1 (by first | exact h2 | (simp only [frC, rcC, h2]; rfl))⟩, ?_⟩
     have hk_241 := KeepP.clip (fun _ => false) col_240 w_237
     refine xaF rfl rfl (free_alloc Tryz.zeroValue40) ?_
     intro g_242 hF_243
     refine xeF rfl rfl ?_
     intro w_244 ⟨hC0, hZ0⟩
     replace rh_136 := ((((rh_136.gr hg_224).kpp hk_227).gr hC).gr hg_238).kpp hk_241
     replace rh_139 := ((((rh_139.gr hg_224).kpp hk_227).gr hC).gr hg_238).kpp hk_241
     replace h_56 := ((h_56.gr hC).gr hg_238).kpp hk_241
     replace h_60 := ((h_60.gr hC).gr hg_238).kpp hk_241
     replace h_65 := ((h_65.gr hC).gr hg_238).kpp hk_241
     replace h_69 := ((h_69.gr hC).gr hg_238).kpp hk_241
     replace h_183 := ((h_183.gr hC).gr hg_238).kpp hk_241
     replace h_74 := ((h_74.gr hC).gr hg_238).kpp hk_241
     replace h_78 := ((h_78.gr hC).gr hg_238).kpp hk_241
     replace h_83 := ((h_83.gr hC).gr hg_238).kpp hk_241
     replace h_87 := ((h_87.gr hC).gr hg_238).kpp hk_241
     replace h0_0 := ((h0_0.gr hC).gr hg_238).kpp hk_241
     replace h0_2 := ((h0_2.gr hC).gr hg_238).kpp hk_241
     replace h0_4 := ((h0_4.gr hC).gr hg_238).kpp hk_241
     replace h0_6 := ((h0_6.gr hC).gr hg_238).kpp hk_241
     replace h_92 := ((h_92.gr hC).gr hg_238).kpp hk_241
     replace h_96 := ((h_96.gr hC).gr hg_238).kpp hk_241
     replace h_101 := ((h_101.gr hC).gr hg_238).kpp hk_241
     replace h_105 := ((h_105.gr hC).gr hg_238).kpp hk_241
     replace h_109 := ((h_109.gr hC).gr hg_238).kpp hk_241
     replace hb_47 := ((hb_47.gr hC).gr hg_238).kpp hk_241
     replace hb_151 := ((hb_151.gr hC).gr hg_238).kpp hk_241
     replace hb_160 := ((hb_160.gr hC).gr hg_238).kpp hk_241
     replace hb3 := ((hb3.gr hC).gr hg_238).kpp hk_241
     replace hb_5 := ((hb_5.gr hC).gr hg_238).kpp hk_241
     replace hb_10 := ((hb_10.gr hC).gr hg_238).kpp hk_241
     replace hst := ((hst.grow hC).grow hg_238).kpp hk_241
     have hC : Grow (clipC w_237 col_240) w_237 (clipC w_237 col_240) w_244 := .of_below hC0.below
     obtain ⟨hk_246, hb_245⟩ := box_float (col := (clipC w_237 col_240)) 22 hZ0 hF_243
     replace hb_245 : Box 40 22 (setC g_242 22 (clipC w_237 col_240)) w_244 g_242 #[(.bool false), (.slice none (([] : List Int).length) 0), (.slice none (([] : List Int).length) 0)] := hb_245
     refine l_bstore (v := (.agg #[(.bool r_229.1.1), (.slice ra_231 r_229.1.2.length rc_232), (.slice ra_234 r_229.2.length rc_235)])) hb_245 Tryz.sizeOf40 rfl rfl (by intro u hu; simp only [Value.cells, List.mem_cons, List.not_mem_nil, or_false] at hu; rcases hu with rfl | rfl | rfl <;> rfl) rfl rfl ?_
     intro w_247 hk_248 hs_249 hb_250
     clear hb_245
     replace hb_250 : Box 40 22 (setC g_242 22 (clipC w_237 col_240)) w_247 g_242 #[(.bool r_229.1.1), (.slice ra_231 r_229.1.2.length rc_232), (.slice ra_234 r_229.2.length rc_235)] := hb_250
     refine lN ⟨fun w' => Grow (clipC w_247 (setC g_242 22 (clipC w_237 col_240))) w_247 (clipC w_247 (setC g_242 22 (clipC w_237 col_240))) w', fun g => (clipC w_247 (setC g_242 22 (clipC w_237 col_240))) g = 497, Grow.refl _ _, good_clip, fun h => absurd h (by decide), ?_⟩
     have hk_251 := KeepP.clip (fun _ => false) (setC g_242 22 (clipC w_237 col_240)) w_247
     refine xnilF ?_
     replace h_175 := (((((h_175.gr hg_238).kpp hk_241).gr hC).kpp hk_246).kp hk_248).kpp hk_251
     replace h_179 := (((((h_179.gr hg_238).kpp hk_241).gr hC).kpp hk_246).kp hk_248).kpp hk_251
     replace h1 := ((((h1.kpp hk_241).gr hC).kpp hk_246).kp hk_248).kpp hk_251
     replace rh_233 := ((((rh_233.kpp hk_241).gr hC).kpp hk_246).kp hk_248).kpp hk_251
     replace rh_236 := ((((rh_236.kpp hk_241).gr hC).kpp hk_246).kp hk_248).kpp hk_251
     replace h_56 := (((h_56.gr hC).kpp hk_246).kp hk_248).kpp hk_251
     replace h_60 := (((h_60.gr hC).kpp hk_246).kp hk_248).kpp hk_251
     replace h_65 := (((h_65.gr hC).kpp hk_246).kp hk_248).kpp hk_251
     replace h_69 := (((h_69.gr hC).kpp hk_246).kp hk_248).kpp hk_251
     replace rh_136 := (((rh_136.gr hC).kpp hk_246).kp hk_248).kpp hk_251
     replace rh_139 := (((rh_139.gr hC).kpp hk_246).kp hk_248).kpp hk_251
     replace h_183 := (((h_183.gr hC).kpp hk_246).kp hk_248).kpp hk_251
     replace h_74 := (((h_74.gr hC).kpp hk_246).kp hk_248).kpp hk_251
     replace h_78 := (((h_78.gr hC).kpp hk_246).kp hk_248).kpp hk_251
     replace h_83 := (((h_83.gr hC).kpp hk_246).kp hk_248).kpp hk_251
     replace h_87 := (((h_87.gr hC).kpp hk_246).kp hk_248).kpp hk_251
     replace h0_0 := (((h0_0.gr hC).kpp hk_246).kp hk_248).kpp hk_251
     replace h0_2 := (((h0_2.gr hC).kpp hk_246).kp hk_248).kpp hk_251
     replace h0_4 := (((h0_4.gr hC).kpp hk_246).kp hk_248).kpp hk_251
     replace h0_6 := (((h0_6.gr hC).kpp hk_246).kp hk_248).kpp hk_251
     replace h_92 := (((h_92.gr hC).kpp hk_246).kp hk_248).kpp hk_251
     replace h_96 := (((h_96.gr hC).kpp hk_246).kp hk_248).kpp hk_251
     replace h_101 := (((h_101.gr hC).kpp hk_246).kp hk_248).kpp hk_251
     replace h_105 := (((h_105.gr hC).kpp hk_246).kp hk_248).kpp hk_251
     replace h_109 := (((h_109.gr hC).kpp hk_246).kp hk_248).kpp hk_251
     replace hb_47 := (((hb_47.gr hC).kpp hk_246).kp hk_248).kpp hk_251
     replace hb_151 := (((hb_151.gr hC).kpp hk_246).kp hk_248).kpp hk_251
     replace hb_160 := (((hb_160.gr hC).kpp hk_246).kp hk_248).kpp hk_251
     replace hb3 := (((hb3.gr hC).kpp hk_246).kp hk_248).kpp hk_251
     replace hb_5 := (((hb_5.gr hC).kpp hk_246).kp hk_248).kpp hk_251
     replace hb_10 := (((hb_10.gr hC).kpp hk_246).kp hk_248).kpp hk_251
     replace hst := (((hst.grow hC).kpp hk_246).kp hk_248 hs_249).kpp hk_251
     intro w_252 hC
     replace hC : Grow (clipC w_247 (setC g_242 22 (clipC w_237 col_240))) w_247 (clipC w_247 (setC g_242 22 (clipC w_237 col_240))) w_252 := .of_below hC.below
     refine wS (wR ?_)
     refine lM (.slice a_181 parts_180.length cap_182) ?_
     replace hb_160 := hb_160.gr hC
     refine lV (.agg #[(.bool at_171), (.slice a_173 at_172.length cap_174), (.slice a_177 at_176.length cap_178)]) (r_ldN Tryz.isAgg40 Tryz.sizeOf40 rfl rfl hb_160.atN) ?_
     replace hb_250 := (hb_250.kpp hk_251).gr hC
     refine lV (.agg #[(.bool r_229.1.1), (.slice ra_231 r_229.1.2.length rc_232), (.slice ra_234 r_229.2.length rc_235)]) (r_ldN Tryz.isAgg40 Tryz.sizeOf40 rfl rfl hb_250.atN) ?_
     refine lV (.agg #[(.bool at_171), (.slice a_173 at_172.length cap_174), (.slice a_177 at_176.length cap_178), (.bool r_229.1.1), (.slice ra_231 r_229.1.2.length rc_232), (.slice ra_234 r_229.2.length rc_235)]) (r_build (l := [_, _]) (qs := [(0, 3), (3, 3)]) Tryz.underlying62 Tryz.zeroValue62 ⟨rfl, Tryz.sizeOf40, rfl, Tryz.sizeOf40, trivial⟩ rfl) ?_
     replace h_56 := h_56.gr hC
     replace h_56 := h_56.froz 21
     replace h_60 := h_60.gr hC
     replace h_60 := h_60.froz 21
     replace h_65 := h_65.gr hC
     replace h_65 := h_65.froz 21
     replace h_69 := h_69.gr hC
     replace h_69 := h_69.froz 21
     replace rh_136 := rh_136.gr hC
     replace rh_136 := rh_136.froz 21 (by decide)
     replace rh_139 := rh_139.gr hC
     replace rh_139 := rh_139.froz 21 (by decide)
     replace h_175 := h_175.gr hC
     replace h_175 := h_175.froz 21
     replace h_179 := h_179.gr hC
     replace h_179 := h_179.froz 21
     replace h_74 := h_74.gr hC
     replace h_74 := h_74.froz 21
     replace h_78 := h_78.gr hC
     replace h_78 := h_78.froz 21
     replace h_83 := h_83.gr hC
     replace h_83 := h_83.froz 21
     replace h_87 := h_87.gr hC
     replace h_87 := h_87.froz 21
     replace h1 := h1.gr hC
     replace h1 := h1.froz 21
     replace h0_0 := h0_0.gr hC
     replace h0_0 := h0_0.froz 21
     replace h0_2 := h0_2.gr hC
     replace h0_2 := h0_2.froz 21
     replace h0_4 := h0_4.gr hC
     replace h0_4 := h0_4.froz 21
     replace h0_6 := h0_6.gr hC
     replace h0_6 := h0_6.froz 21
     replace h_92 := h_92.gr hC
     replace h_92 := h_92.froz 21 (by decide)
     replace h_96 := h_96.gr hC
     replace h_96 := h_96.froz 21 (by decide)
     replace h_101 := h_101.gr hC
     replace h_101 := h_101.froz 21 (by decide)
     replace h_105 := h_105.gr hC
     replace h_105 := h_105.froz 21 (by decide)
     replace h_109 := h_109.gr hC
     replace h_109 := h_109.froz 21 (by decide)
     replace rh_233 := rh_233.gr hC
     replace rh_233 := rh_233.froz 21 (by decide)
     replace rh_236 := rh_236.gr hC
     replace rh_236 := (rh_236).toSlF (Froz.int .u32)
     replace h_183 := h_183.gr hC
     replace h_183 := h_183.froz 21 (by decide)
     replace hb_47 := hb_47.gr hC
     replace hb_47 := hb_47.froz 21 (by decide)
     replace hb_151 := hb_151.gr hC
     replace hb_151 := hb_151.froz 21 (by decide)
     replace hb_160 := hb_160.froz 21 (by decide)
     replace hb3 := hb3.gr hC
     replace hb3 := hb3.froz 21 (by decide)
     replace hb_5 := hb_5.gr hC
     replace hb_5 := hb_5.froz 21 (by decide)
     replace hb_10 := hb_10.gr hC
     replace hb_10 := hb_10.froz 21 (by decide)
     replace hb_250 := hb_250.froz 21 (by decide)
     replace hst := hst.grow hC
     replace hst := hst.froz 21 (by decide) (by decide)
     replace h_56 := h_56.froz 20
     replace h_60 := h_60.froz 20
     replace h_65 := h_65.froz 20
     replace h_69 := h_69.froz 20
     replace rh_136 := rh_136.froz 20 (by decide)
     replace rh_139 := rh_139.froz 20 (by decide)
     replace h_175 := h_175.froz 20
     replace h_179 := h_179.froz 20
     replace h_74 := h_74.froz 20
     replace h_78 := h_78.froz 20
     replace h_83 := h_83.froz 20
     replace h_87 := h_87.froz 20
     replace h1 := h1.froz 20
     replace h0_0 := h0_0.froz 20
     replace h0_2 := h0_2.froz 20
     replace h0_4 := h0_4.froz 20
     replace h0_6 := h0_6.froz 20
     replace h_92 := h_92.froz 20 (by decide)
     replace h_96 := h_96.froz 20 (by decide)
     replace h_101 := h_101.froz 20 (by decide)
     replace h_105 := h_105.froz 20 (by decide)
     replace h_109 := h_109.froz 20 (by decide)
     replace rh_233 := (rh_233).toSlF (Froz.int .u32)
     replace rh_236 := rh_236.froz 20
     replace h_183 := h_183.froz 20 (by decide)
     replace hb_47 := hb_47.froz 20 (by decide)
     replace hb_151 := hb_151.froz 20 (by decide)
     replace hb_160 := hb_160.froz 20 (by decide)
     replace hb3 := hb3.froz 20 (by decide)
     replace hb_5 := hb_5.froz 20 (by decide)
     replace hb_10 := hb_10.froz 20 (by decide)
     replace hb_250 := hb_250.froz 20 (by decide)
     replace hst := hst.froz 20 (by decide) (by decide)
     refine l_lit (col := (frC 20 (frC 21 (clipC w_247 (setC g_242 22 (clipC w_237 col_240)))))) (r := (Rep.pair (Rep.pair (Rep.pair Rep.bool (Rep.slice (Rep.int .u32))) (Rep.slice (Rep.int .u32))) (Rep.pair (Rep.pair Rep.bool (Rep.slice (Rep.int .u32))) (Rep.slice (Rep.int .u32))))) (xs := [(((at_171, at_172), at_176), ((r_229.1.1, r_229.1.2), r_229.2))]) [(.agg #[(.bool at_171), (.slice a_173 at_172.length cap_174), (.slice a_177 at_176.length cap_178), (.bool r_229.1.1), (.slice ra_231 r_229.1.2.length rc_232), (.slice ra_234 r_229.2.length rc_235)])] 23 rfl Tryz.underlying124 el62_71V2C124XSSSS rfl rfl rfl rfl rfl rfl (by intro v hv; simp only [List.mem_cons, List.not_mem_nil, or_false] at hv; subst hv; rfl) (RowsH.ofF (Rows.consF (r := (Rep.pair (Rep.pair (Rep.pair Rep.bool (Rep.slice (Rep.int .u32))) (Rep.slice (Rep.int .u32))) (Rep.pair (Rep.pair Rep.bool (Rep.slice (Rep.int .u32))) (Rep.slice (Rep.int .u32))))) (x := (((at_171, at_172), at_176), ((r_229.1.1, r_229.1.2), r_229.2))) (cs := [(.bool at_171), (.slice a_173 at_172.length cap_174), (.slice a_177 at_176.length cap_178), (.bool r_229.1.1), (.slice ra_231 r_229.1.2.length rc_232), (.slice ra_234 r_229.2.length rc_235)]) (rd_pairI (rd_pairI (rd_pairI (rd_bool at_171) (rd_slI h_175)) (rd_slI h_179)) (rd_pairI (rd_pairI (rd_bool r_229.1.1) (rd_slI rh_233)) (rd_slI rh_236))) Rows.nil0)) ?_
     intro a_253 w_254 col_255 hg_256 h_257
     obtain ⟨hb_258, hm⟩ := cS hm
     replace h_183 := h_183.gr hg_256
     refine l_appendM (col := col_255) (w := w_254) (r := (Rep.pair (Rep.pair (Rep.pair Rep.bool (Rep.slice (Rep.int .u32))) (Rep.slice (Rep.int .u32))) (Rep.pair (Rep.pair Rep.bool (Rep.slice (Rep.int .u32))) (Rep.slice (Rep.int .u32))))) (c := 17) (c2 := 17) (xs := parts_180) (ys := [(((at_171, at_172), at_176), ((r_229.1.1, r_229.1.2), r_229.2))]) h_183 (h_257.srcN (NB.pair (NB.pair (NB.pair NB.bool NB.slice) NB.slice) (NB.pair (NB.pair NB.bool NB.slice) NB.slice))) rfl Tryz.underlying124 el62_71V2C124XSSSS rfl rfl rfl hb_258.1 hb_258.2 (by decide) ?_
     intro a_259 cap_260 w_261 col_262 hk_263 h_264
     clear h_183
     refine lA (.slice a_259 ((parts_180 ++ [(((at_171, at_172), at_176), ((r_229.1.1, r_229.1.2), r_229.2))]).length) cap_260) ?_
     refine lN (wR ?_)
     replace hb_250 := (hb_250.gr hg_256).kpp hk_263
     refine lV (.agg #[(.bool r_229.1.1), (.slice ra_231 r_229.1.2.length rc_232), (.slice ra_234 r_229.2.length rc_235)]) (r_ldN Tryz.isAgg40 Tryz.sizeOf40 rfl rfl hb_250.atN) ?_
     replace hb_160 := (hb_160.gr hg_256).kpp hk_263
     refine l_bstore (v := (.agg #[(.bool r_229.1.1), (.slice ra_231 r_229.1.2.length rc_232), (.slice ra_234 r_229.2.length rc_235)])) hb_160 Tryz.sizeOf40 rfl rfl (by intro u hu; simp only [Value.cells, List.mem_cons, List.not_mem_nil, or_false] at hu; rcases hu with rfl | rfl | rfl <;> rfl) rfl rfl ?_
     intro w_265 hk_266 hs_267 hb_268
     clear hb_160
     replace hb_268 : Box 40 16 col_262 w_265 g_152 #[(.bool r_229.1.1), (.slice ra_231 r_229.1.2.length rc_232), (.slice ra_234 r_229.2.length rc_235)] := hb_268
     refine lN (wR ?_)
     refine lV (.int .i64 (IntKind.i64.wrap (v_184 + 1))) (r_add v_184 1 rfl rfl) ?_
     refine lM (.int .i64 (IntKind.i64.wrap (v_184 + 1))) ?_
     refine lN ?_
     replace h_56 := ((h_56.gr hg_256).kpp hk_263).kp hk_266
     replace h_60 := ((h_60.gr hg_256).kpp hk_263).kp hk_266
     replace h_65 := ((h_65.gr hg_256).kpp hk_263).kp hk_266
     replace h_69 := ((h_69.gr hg_256).kpp hk_263).kp hk_266
     replace rh_136 := ((rh_136.gr hg_256).kpp hk_263).kp hk_266
     replace rh_139 := ((rh_139.gr hg_256).kpp hk_263).kp hk_266
     replace h_74 := ((h_74.gr hg_256).kpp hk_263).kp hk_266
     replace h_78 := ((h_78.gr hg_256).kpp hk_263).kp hk_266
     replace h_83 := ((h_83.gr hg_256).kpp hk_263).kp hk_266
     replace h_87 := ((h_87.gr hg_256).kpp hk_263).kp hk_266
     replace h1 := ((h1.gr hg_256).kpp hk_263).kp hk_266
     replace h0_0 := ((h0_0.gr hg_256).kpp hk_263).kp hk_266
     replace h0_2 := ((h0_2.gr hg_256).kpp hk_263).kp hk_266
     replace h0_4 := ((h0_4.gr hg_256).kpp hk_263).kp hk_266
     replace h0_6 := ((h0_6.gr hg_256).kpp hk_263).kp hk_266
     replace h_92 := ((h_92.gr hg_256).kpp hk_263).kp hk_266
     replace h_96 := ((h_96.gr hg_256).kpp hk_263).kp hk_266
     replace h_101 := ((h_101.gr hg_256).kpp hk_263).kp hk_266
     replace h_105 := ((h_105.gr hg_256).kpp hk_263).kp hk_266
     replace h_109 := ((h_109.gr hg_256).kpp hk_263).kp hk_266
     replace rh_233 := ((rh_233.gr hg_256).kpp hk_263).kp hk_266
     replace rh_236 := ((rh_236.gr hg_256).kpp hk_263).kp hk_266
     replace hb_47 := ((hb_47.gr hg_256).kpp hk_263).kp hk_266
     replace hb_151 := ((hb_151.gr hg_256).kpp hk_263).kp hk_266
     replace hb3 := ((hb3.gr hg_256).kpp hk_263).kp hk_266
     replace hb_5 := ((hb_5.gr hg_256).kpp hk_263).kp hk_266
     replace hb_10 := ((hb_10.gr hg_256).kpp hk_263).kp hk_266
     replace hst := ((hst.grow hg_256).kpp hk_263).kp hk_266 hs_267
     replace h_264 := h_264.kp hk_266
     exact ⟨n_168, by omega, ⟨col_262, r_229.1.1, ra_231, rc_232, r_229.1.2, ra_234, rc_235, r_229.2, a_259, cap_260, (parts_180 ++ [(((at_171, at_172), at_176), ((r_229.1.1, r_229.1.2), r_229.2))]), (IntKind.i64.wrap (v_184 + 1)), n_168, rfl, hm, hst, h_56, h_60, h_65, h_69, hb_47, rh_136, rh_139, hb_151, rh_233, rh_236, hb_268, h_264, h_74, h_78, h_83, h_87, hb3, h1, h0_0, h0_2, h0_4, h0_6, hb_5, h_92, h_96, h_101, h_105, hb_10, h_109, rfl, rfl, rfl, rfl, rfl, rfl, rfl, rfl, rfl, rfl, rfl, rfl, rfl, rfl, rfl, rfl⟩⟩
    rw [if_neg (by rw [hb]; decide)] at hm
    clear hb
    refine wexit (inB_hit ?_)
    refine wS (wR ?_)
    refine lM (.func (.func 124) #[] #[(.pointer (some ⟨g3, 0, none⟩))]) ?_
    refine lM (.int .i64 x_110) ?_
    refine lM (.slice a_181 parts_180.length cap_182) ?_
    obtain ⟨r_269, hr_270, hm⟩ := bS hm
    refine lc rfl rfl (r_callv2 Tryz.call124 rfl rfl rfl) (c_code_within_1_v2sssss N (frC 17 col_170) _ 999 (by decide) x_110 a_181 cap_182 parts_180 g3 (((n_70, n_71), n_75), ((n_79, n_80), n_84)) a_72 cap_73 a_76 cap_77 a_81 cap_82 a_85 cap_86 (h_183.toSlF (Froz.pair (Froz.pair (Froz.pair Froz.bool Froz.slice) Froz.slice) (Froz.pair (Froz.pair Froz.bool Froz.slice) Froz.slice))) (h_74.froz 17) (h_78.froz 17) (h_83.froz 17) (h_87.froz 17) (hb3.froz 17 (by decide)) r_269 hr_270) ?_
    rintro _ w_271 ⟨rfl, hg_272⟩
    refine ⟨_, rfl, ?_⟩
    replace hg_272 : Grow col_170 w_169 col_170 w_271 := .of_below hg_272
    refine lA (.int .i64 r_269) ?_
    refine lN (wS (wS (wR ?_)))
    refine lM (.int .i64 r_269) ?_
    refine lV (.bool (decide (r_269 < 0))) (r_lss r_269 0 rfl rfl) ?_
    refine lN ?_
    replace h_183 := h_183.gr hg_272
    replace h_74 := h_74.gr hg_272
    replace h_78 := h_78.gr hg_272
    replace h_83 := h_83.gr hg_272
    replace h_87 := h_87.gr hg_272
    replace h1 := h1.gr hg_272
    replace h0_0 := h0_0.gr hg_272
    replace h0_2 := h0_2.gr hg_272
    replace h0_4 := h0_4.gr hg_272
    replace h0_6 := h0_6.gr hg_272
    replace h_92 := h_92.gr hg_272
    replace h_96 := h_96.gr hg_272
    replace h_101 := h_101.gr hg_272
    replace h_105 := h_105.gr hg_272
    replace h_109 := h_109.gr hg_272
    replace hb_47 := hb_47.gr hg_272
    replace hb3 := hb3.gr hg_272
    replace hb_5 := hb_5.gr hg_272
    replace hb_10 := hb_10.gr hg_272
    replace hst := hst.grow hg_272
    refine wcond (decide (r_269 < 0)) rfl (fun hb => ?_) (fun hb => ?_)
    ·rw [if_pos hb] at hm
     clear hb
     refine wS (wR ?_)
     refine lV (.agg #[(.bool false), (.slice none (([] : List Int).length) 0), (.slice none (([] : List Int).length) 0), (.bool false), (.slice none (([] : List Int).length) 0), (.slice none (([] : List Int).length) 0)]) (r_build (l := [_, _]) (qs := [(0, 3), (3, 3)]) Tryz.underlying62 Tryz.zeroValue62 ⟨rfl, Tryz.sizeOf40, rfl, Tryz.sizeOf40, trivial⟩ rfl) ?_
     refine lA (.slice none (([] : List Int).length) 0) ?_
     refine l_bstore (v := (.agg #[(.bool false), (.slice none (([] : List Int).length) 0), (.slice none (([] : List Int).length) 0), (.bool false), (.slice none (([] : List Int).length) 0), (.slice none (([] : List Int).length) 0)])) hb_10 Tryz.sizeOf62 rfl rfl (by intro u hu; simp only [Value.cells, List.mem_cons, List.not_mem_nil, or_false] at hu; rcases hu with rfl | rfl | rfl | rfl | rfl | rfl <;> rfl) rfl rfl ?_
     intro w_273 hk_274 hs_275 hb_276
     clear hb_10
     replace hb_276 : Box 62 2 col_170 w_273 g_6 #[(.bool false), (.slice none (([] : List Int).length) 0), (.slice none (([] : List Int).length) 0), (.bool false), (.slice none (([] : List Int).length) 0), (.slice none (([] : List Int).length) 0)] := hb_276
     refine lA (.bool false) ?_
     refine lN ?_
     refine wret ?_
     cases hm
     replace hst := hst.kp hk_274 hs_275
     exact ⟨rfl, _, res_tat rfl rfl rfl rfl Tryz.isAgg62 Tryz.sizeOf62 rfl rfl hb_276.atN rfl rfl, colF w0.heap.size col col_170 (fun n => 0), none, 0, none, 0, none, 0, none, 0, none, 0, rfl, hst.fin (fun n => 0), Own.nil, Sl.nil, Sl.nil, Sl.nil, Sl.nil⟩
    rw [if_neg (by rw [hb]; decide)] at hm
    clear hb
    refine wK (wR ?_)
    refine lM (.slice a_107 values_106.length cap_108) ?_
    refine lM (.int .i64 x_110) ?_
    refine lM (.int .i64 r_269) ?_
    refine lM (.slice a_181 parts_180.length cap_182) ?_
    refine lM (.int .i64 r_269) ?_
    obtain ⟨e_277, hj_278, hm⟩ := bS hm
    refine lV (sptr a_181 (Int.toNat r_269 * 6)) (r_idx Tryz.underlying124 Tryz.sizeOf62 rfl rfl (at?_some hj_278).1 (at?_some hj_278).2.1 (h_183.addr hj_278)) ?_
    obtain ⟨_, hr_279, hA_280⟩ := h_183.atN hj_278
    obtain ⟨_, _, rfl, hp_281, hp_282⟩ := hr_279.parts
    obtain ⟨_, _, rfl, hp_283, hp_284⟩ := hp_281.parts
    obtain ⟨_, _, rfl, hp_285, hp_286⟩ := hp_283.parts
    obtain rfl := hp_285.bool
    obtain ⟨a_287, cap_288, rfl, h_289⟩ := hp_286.slice
    obtain ⟨a_290, cap_291, rfl, h_292⟩ := hp_284.slice
    obtain ⟨_, _, rfl, hp_293, hp_294⟩ := hp_282.parts
    obtain ⟨_, _, rfl, hp_295, hp_296⟩ := hp_293.parts
    obtain rfl := hp_295.bool
    obtain ⟨a_297, cap_298, rfl, h_299⟩ := hp_296.slice
    obtain ⟨a_300, cap_301, rfl, h_302⟩ := hp_294.slice
    refine lV (.agg #[(.bool e_277.1.1.1), (.slice a_287 e_277.1.1.2.length cap_288), (.slice a_290 e_277.1.2.length cap_291), (.bool e_277.2.1.1), (.slice a_297 e_277.2.1.2.length cap_298), (.slice a_300 e_277.2.2.length cap_301)]) (r_ldN Tryz.isAgg62 Tryz.sizeOf62 rfl rfl hA_280) ?_
    obtain ⟨e_303, hj_304, hm⟩ := bS hm
    refine lV (sptr a_107 (Int.toNat x_110 * 1)) (r_idx Tryz.underlying33 Tryz.sizeOf3 rfl rfl (at?_some hj_304).1 (at?_some hj_304).2.1 (h_109.addr hj_304)) ?_
    obtain ⟨xs_310, hz_309, hm⟩ := bS hm
    have hz_309 : xs_310 = values_106.set (Int.toNat x_110) r_269 := (Option.some.inj hz_309).symm
    refine l_store (x1 := r_269) (v := (.int .i64 r_269)) h_109 hj_304 rfl Tryz.sizeOf3 (rd_int .i64 r_269) rfl rfl (by decide) ?_
    intro w_305 hk_306 hs_307 h_308
    rw [← hz_309] at h_308
    refine .ld (d := 9) (v := (.slice a_107 xs_310.length cap_108)) (congrArg (fun n => Value.slice a_107 n cap_108) (show values_106.length = xs_310.length by rw [hz_309, List.length_set])) ?_
    clear h_109
    replace hb_47 := hb_47.kp hk_306
    refine l_bstore (v := (.agg #[(.bool e_277.1.1.1), (.slice a_287 e_277.1.1.2.length cap_288), (.slice a_290 e_277.1.2.length cap_291), (.bool e_277.2.1.1), (.slice a_297 e_277.2.1.2.length cap_298), (.slice a_300 e_277.2.2.length cap_301)])) hb_47 Tryz.sizeOf62 rfl rfl (by intro u hu; simp only [Value.cells, List.mem_cons, List.not_mem_nil, or_false] at hu; rcases hu with rfl | rfl | rfl | rfl | rfl | rfl <;> rfl) rfl rfl ?_
    intro w_311 hk_312 hs_313 hb_314
    clear hb_47
    replace hb_314 : Box 62 8 col_170 w_311 g_39 #[(.bool e_277.1.1.1), (.slice a_287 e_277.1.1.2.length cap_288), (.slice a_290 e_277.1.2.length cap_291), (.bool e_277.2.1.1), (.slice a_297 e_277.2.1.2.length cap_298), (.slice a_300 e_277.2.2.length cap_301)] := hb_314
    refine lN (wR ?_)
    refine lV (.int .i64 (IntKind.i64.wrap ((k_48 : Int) + 1))) (r_add (k_48 : Int) 1 rfl rfl) ?_
    refine lM (.int .i64 (IntKind.i64.wrap ((k_48 : Int) + 1))) ?_
    refine lN ?_
    replace h_74 := (h_74.kp hk_306).kp hk_312
    replace h_78 := (h_78.kp hk_306).kp hk_312
    replace h_83 := (h_83.kp hk_306).kp hk_312
    replace h_87 := (h_87.kp hk_306).kp hk_312
    replace h1 := (h1.kp hk_306).kp hk_312
    replace h0_0 := (h0_0.kp hk_306).kp hk_312
    replace h0_2 := (h0_2.kp hk_306).kp hk_312
    replace h0_4 := (h0_4.kp hk_306).kp hk_312
    replace h0_6 := (h0_6.kp hk_306).kp hk_312
    replace h_92 := (h_92.kp hk_306).kp hk_312
    replace h_96 := (h_96.kp hk_306).kp hk_312
    replace h_101 := (h_101.kp hk_306).kp hk_312
    replace h_105 := (h_105.kp hk_306).kp hk_312
    replace h_289 := (h_289.kp hk_306).kp hk_312
    replace h_292 := (h_292.kp hk_306).kp hk_312
    replace h_299 := (h_299.kp hk_306).kp hk_312
    replace h_302 := (h_302.kp hk_306).kp hk_312
    replace hb3 := (hb3.kp hk_306).kp hk_312
    replace hb_5 := (hb_5.kp hk_306).kp hk_312
    replace hb_10 := (hb_10.kp hk_306).kp hk_312
    replace hst := (hst.kp hk_306 hs_307).kp hk_312 hs_313
    replace h_308 := h_308.kp hk_312
    exact ⟨l_111.length, by simp, ⟨col_170, e_277.1.1.1, a_287, cap_288, e_277.1.1.2, a_290, cap_291, e_277.1.2, e_277.2.1.1, a_297, cap_298, e_277.2.1.2, a_300, cap_301, e_277.2.2, n_70, a_72, cap_73, n_71, a_76, cap_77, n_75, n_79, a_81, cap_82, n_80, a_85, cap_86, n_84, (k_48 + 1), v_88, a_90, cap_91, v_89, a_94, cap_95, v_93, v_97, a_99, cap_100, v_98, a_103, cap_104, v_102, a_107, cap_108, xs_310, l_111, rfl, hl2_L1, hm, hst, h_289, h_292, h_299, h_302, hb_314, h_74, h_78, h_83, h_87, hb3, h1, h0_0, h0_2, h0_4, h0_6, hb_5, h_92, h_96, h_101, h_105, hb_10, h_308, (congrArg (Value.int .i64) (wrap_succ (Nat.lt_of_lt_of_le hlt_L1 h1.1.1))), rfl, rfl, rfl, rfl, rfl, rfl, rfl, rfl⟩⟩
  | cons x_130 l_131 =>
   obtain ⟨hat, hl2_L2, hlt_L2⟩ := drop_get hl
   have hk : (k_125 : Int) < (e_118.length : Int) := by omega
   have hkb := decide_eq_true hk
   rw [m_code_cut_v2c124xssss_L2.eq_2] at hm
   refine wS (wR ?_)
   refine lV (.bool (decide ((k_125 : Int) < (e_118.length : Int)))) (r_lss (k_125 : Int) (e_118.length : Int) rfl rfl) ?_
   refine lN (wS ?_)
   refine wcondT (congrArg Value.bool hkb) ?_
   refine wK (wS (wB (wS (wR ?_))))
   refine lV (sptr a_122 (Int.toNat (k_125 : Int) * 1)) (r_idx Tryz.underlying33 Tryz.sizeOf3 rfl rfl (at?_some hat).1 (at?_some hat).2.1 (h_124.addr hat)) ?_
   refine lV (.int .i64 x_130) (r_ld Tryz.isAgg3 rfl (h_124.atInt hat)) ?_
   refine lA (.int .i64 x_130) ?_
   refine lN ?_
   refine wquiet (col := col_128) (by kernel_rfl) (by kernel_rfl) ?_
   refine qv (v := (.int .i64 row_129)) rfl (fun _ hC => r_move rfl) ?_
   refine qv (v := (.pointer ((some (⟨g_1, 0, none⟩ : Addr)).map (·.add 2)))) rfl (fun _ hC => rF (sz := 1) (off := 2) Tryz.underlying28 rfl Tryz.sizeOf24 (by decide) rfl rfl ⟨_, _, rfl⟩) ?_
   refine qv (v := (.slice a0_2 p0_n.2.2.1.length cap0_2)) rfl (fun _ hC => r_ld Tryz.isAgg24 rfl (((hb_5.atN).nth (q := 2) (v := (.slice a0_2 p0_n.2.2.1.length cap0_2)) rfl).gr (Grow.of_below (col := col_128) hC.below))) ?_
   refine qv (v := (.int .i64 x_130)) rfl (fun _ hC => r_move rfl) ?_
   obtain ⟨e_315, hj_316, hm⟩ := bS hm
   refine qv (v := (sptr a0_2 (Int.toNat x_130 * 1))) rfl (fun _ hC => r_idx Tryz.underlying24 Tryz.sizeOf23 rfl rfl (at?_some hj_316).1 (at?_some hj_316).2.1 (h0_2.addr hj_316)) ?_
   obtain ⟨_, hr_317, hA_318⟩ := h0_2.atN hj_316
   obtain ⟨⟨a_319, cap_320, rfl, h_321⟩, _⟩ := hr_317
   refine qv (v := (.slice a_319 e_315.length cap_320)) rfl (fun _ hC => r_ld Tryz.isAgg23 rfl (hA_318.one.gr (Grow.of_below (col := col_128) hC.below))) ?_
   refine qv (v := (.int .i64 (e_315.length : Int))) rfl (fun _ hC => r_len Tryz.underlying23 rfl) ?_
   refine qv (v := (.int .i64 (IntKind.i64.wrap (row_129 * (e_315.length : Int))))) rfl (fun _ hC => r_mul row_129 (e_315.length : Int) rfl rfl) ?_
   refine qv (v := (.slice a_107 values_106.length cap_108)) rfl (fun _ hC => r_move rfl) ?_
   refine qv (v := (.int .i64 x_130)) rfl (fun _ hC => r_move rfl) ?_
   obtain ⟨e_322, hj_323, hm⟩ := bS hm
   refine qv (v := (sptr a_107 (Int.toNat x_130 * 1))) rfl (fun _ hC => r_idx Tryz.underlying33 Tryz.sizeOf3 rfl rfl (at?_some hj_323).1 (at?_some hj_323).2.1 (h_109.addr hj_323)) ?_
   refine qv (v := (.int .i64 e_322)) rfl (fun _ hC => r_ld Tryz.isAgg3 rfl ((h_109.gr (Grow.of_below (col := col_128) hC.below)).atInt hj_323)) ?_
   refine qv (v := (.int .i64 (IntKind.i64.wrap ((IntKind.i64.wrap (row_129 * (e_315.length : Int))) + e_322)))) rfl (fun _ hC => r_add (IntKind.i64.wrap (row_129 * (e_315.length : Int))) e_322 rfl rfl) ?_
   refine qv (v := (.int .i64 (IntKind.i64.wrap ((IntKind.i64.wrap (row_129 * (e_315.length : Int))) + e_322)))) rfl (fun _ hC => r_assign rfl) ?_
   refine qnil ?_
   intro w_324 hC
   replace hC : Grow col_128 w_127 col_128 w_324 := .of_below hC.below
   refine wR ?_
   refine lV (.int .i64 (IntKind.i64.wrap ((k_125 : Int) + 1))) (r_add (k_125 : Int) 1 rfl rfl) ?_
   refine lM (.int .i64 (IntKind.i64.wrap ((k_125 : Int) + 1))) ?_
   refine lN ?_
   replace h_56 := h_56.gr hC
   replace h_60 := h_60.gr hC
   replace h_65 := h_65.gr hC
   replace h_69 := h_69.gr hC
   replace h_74 := h_74.gr hC
   replace h_78 := h_78.gr hC
   replace h_83 := h_83.gr hC
   replace h_87 := h_87.gr hC
   replace h1 := h1.gr hC
   replace h0_0 := h0_0.gr hC
   replace h0_2 := h0_2.gr hC
   replace h0_4 := h0_4.gr hC
   replace h0_6 := h0_6.gr hC
   replace h_124 := h_124.gr hC
   replace h_92 := h_92.gr hC
   replace h_96 := h_96.gr hC
   replace h_101 := h_101.gr hC
   replace h_105 := h_105.gr hC
   replace h_109 := h_109.gr hC
   replace hb_47 := hb_47.gr hC
   replace hb3 := hb3.gr hC
   replace hb_5 := hb_5.gr hC
   replace hb_10 := hb_10.gr hC
   replace hst := hst.grow hC
   exact ⟨l_131.length, by simp, ⟨col_128, (IntKind.i64.wrap ((IntKind.i64.wrap (row_129 * (e_315.length : Int))) + e_322)), (k_125 + 1), l_131, rfl, hl2_L2, hm, hst, h_56, h_60, h_65, h_69, hb_47, h_74, h_78, h_83, h_87, hb3, h1, h0_0, h0_2, h0_4, h0_6, hb_5, h_124, h_92, h_96, h_101, h_105, hb_10, h_109, (congrArg (Value.int .i64) (wrap_succ (Nat.lt_of_lt_of_le hlt_L2 h_124.1.1))), rfl, rfl, rfl, rfl, rfl, rfl, rfl, rfl, rfl, rfl, rfl, rfl, rfl⟩⟩
theorem el114_73 : ElemOk Tryz.prog 114 1 4 := ⟨Tryz.t114, _, rfl, rfl, rfl, rfl, rfl⟩
def m_code_half (N : Nat) (p0_s : (((Bool × (List Int)) × (List Int)) × ((Bool × (List Int)) × (List Int)))) (p1_upper : Bool) : Option (((Bool × (List Int)) × (List Int)) × ((Bool × (List Int)) × (List Int))) :=
  (m_frac_Add N ((p0_s.1.1.1, p0_s.1.1.2), p0_s.1.2) ((p0_s.2.1.1, p0_s.2.1.2), p0_s.2.2)).bind fun r_11 => (m_frac_Mul N ((r_11.1.1, r_11.1.2), r_11.2) ((false, [1]), [2])).bind fun r_41 => if p1_upper = true then (some (((r_41.1.1, r_41.1.2), r_41.2), ((p0_s.2.1.1, p0_s.2.1.2), p0_s.2.2))) else none
theorem c_code_half (N : Nat) (col : Col) (w0 : World) (a0_0 : Option Addr) (cap0_0 : Nat) (a0_2 : Option Addr) (cap0_2 : Nat) (a0_4 : Option Addr) (cap0_4 : Nat) (a0_6 : Option Addr) (cap0_6 : Nat) (p0_s : (((Bool × (List Int)) × (List Int)) × ((Bool × (List Int)) × (List Int)))) (p1_upper : Bool) (h0_0 : Sl (Rep.int .u32) col w0 a0_0 cap0_0 p0_s.1.1.2) (h0_2 : Sl (Rep.int .u32) col w0 a0_2 cap0_2 p0_s.1.2) (h0_4 : Sl (Rep.int .u32) col w0 a0_4 cap0_4 p0_s.2.1.2) (h0_6 : Sl (Rep.int .u32) col w0 a0_6 cap0_6 p0_s.2.2) (r : (((Bool × (List Int)) × (List Int)) × ((Bool × (List Int)) × (List Int)))) (hm : m_code_half N p0_s p1_upper = some r) :
    Calls Tryz.prog 73 #[(.agg #[(.bool p0_s.1.1.1), (.slice a0_0 p0_s.1.1.2.length cap0_0), (.slice a0_2 p0_s.1.2.length cap0_2), (.bool p0_s.2.1.1), (.slice a0_4 p0_s.2.1.2.length cap0_4), (.slice a0_6 p0_s.2.2.length cap0_6)]), (.bool p1_upper)] w0 (fun e w' => ∃ (col' : Col) (ra1 : Option Addr) (rc2 : Nat) (ra4 : Option Addr) (rc5 : Nat) (ra7 : Option Addr) (rc8 : Nat) (ra10 : Option Addr) (rc11 : Nat), e = .returned ((.agg #[(.bool r.1.1.1), (.slice ra1 r.1.1.2.length rc2), (.slice ra4 r.1.2.length rc5), (.bool r.2.1.1), (.slice ra7 r.2.1.2.length rc8), (.slice ra10 r.2.2.length rc11)])) ∧ Grow col w0 col' w' ∧ Sl (Rep.int .u32) col' w' ra1 rc2 r.1.1.2 ∧ Sl (Rep.int .u32) col' w' ra4 rc5 r.1.2 ∧ Sl (Rep.int .u32) col' w' ra7 rc8 r.2.1.2 ∧ Sl (Rep.int .u32) col' w' ra10 rc11 r.2.2) := by
 refine calls_ofR (m := 27) (args := [(.agg #[(.bool p0_s.1.1.1), (.slice a0_0 p0_s.1.1.2.length cap0_0), (.slice a0_2 p0_s.1.2.length cap0_2), (.bool p0_s.2.1.1), (.slice a0_4 p0_s.2.1.2.length cap0_4), (.slice a0_6 p0_s.2.2.length cap0_6)]), (.bool p1_upper)]) Tryz.func73 rfl rfl rfl ?_
 rw [m_code_half.eq_1] at hm
 have hst := St.start col w0
 refine wS (wR ?_)
 refine l_box (col := (col0 col)) (v := (.agg #[(.bool p0_s.1.1.1), (.slice a0_0 p0_s.1.1.2.length cap0_0), (.slice a0_2 p0_s.1.2.length cap0_2), (.bool p0_s.2.1.1), (.slice a0_4 p0_s.2.1.2.length cap0_4), (.slice a0_6 p0_s.2.2.length cap0_6)])) 1 rfl rfl ?_
 intro g_1 w_2 col_3 hg_4 hb_5
 replace hb_5 : Box 62 1 col_3 w_2 g_1 #[(.bool p0_s.1.1.1), (.slice a0_0 p0_s.1.1.2.length cap0_0), (.slice a0_2 p0_s.1.2.length cap0_2), (.bool p0_s.2.1.1), (.slice a0_4 p0_s.2.1.2.length cap0_4), (.slice a0_6 p0_s.2.2.length cap0_6)] := hb_5
 refine l_alloc (col := col_3) (v := (.agg #[(.bool false), (.slice none (([] : List Int).length) 0), (.slice none (([] : List Int).length) 0), (.bool false), (.slice none (([] : List Int).length) 0), (.slice none (([] : List Int).length) 0)])) 2 rfl Tryz.zeroValue62 ?_
 intro g_6 w_7 col_8 hg_9 hb_10
 replace hb_10 : Box 62 2 col_8 w_7 g_6 #[(.bool false), (.slice none (([] : List Int).length) 0), (.slice none (([] : List Int).length) 0), (.bool false), (.slice none (([] : List Int).length) 0), (.slice none (([] : List Int).length) 0)] := hb_10
 refine lN (wS (wR ?_))
 refine lV (.pointer ((some (⟨g_1, 0, none⟩ : Addr)).map (·.add 0))) (rF (sz := 3) (off := 0) Tryz.underlying62 rfl Tryz.sizeOf40 (by decide) rfl rfl ⟨_, _, rfl⟩) ?_
 replace hb_5 := hb_5.gr hg_9
 refine lV (.agg #[(.bool p0_s.1.1.1), (.slice a0_0 p0_s.1.1.2.length cap0_0), (.slice a0_2 p0_s.1.2.length cap0_2)]) (r_ldN Tryz.isAgg40 Tryz.sizeOf40 rfl rfl ((hb_5.atN).part 0 3 _ rfl)) ?_
 refine lV (.pointer ((some (⟨g_1, 0, none⟩ : Addr)).map (·.add 3))) (rF (sz := 3) (off := 3) Tryz.underlying62 rfl Tryz.sizeOf40 (by decide) rfl rfl ⟨_, _, rfl⟩) ?_
 refine lV (.agg #[(.bool p0_s.2.1.1), (.slice a0_4 p0_s.2.1.2.length cap0_4), (.slice a0_6 p0_s.2.2.length cap0_6)]) (r_ldN Tryz.isAgg40 Tryz.sizeOf40 rfl rfl ((hb_5.atN).part 3 3 _ rfl)) ?_
 obtain ⟨r_11, hr_12, hm⟩ := bS hm
 replace h0_0 := ((h0_0.keep (Stay.start col w0)).gr hg_4).gr hg_9
 replace h0_2 := ((h0_2.keep (Stay.start col w0)).gr hg_4).gr hg_9
 replace h0_4 := ((h0_4.keep (Stay.start col w0)).gr hg_4).gr hg_9
 replace h0_6 := ((h0_6.keep (Stay.start col w0)).gr hg_4).gr hg_9
 refine lc rfl rfl (r_call2 Tryz.call27 rfl rfl) (c_frac_Add N 3 4 col_8 _ a0_0 cap0_0 a0_2 cap0_2 ((p0_s.1.1.1, p0_s.1.1.2), p0_s.1.2) a0_4 cap0_4 a0_6 cap0_6 ((p0_s.2.1.1, p0_s.2.1.2), p0_s.2.2) h0_0 h0_2 h0_4 h0_6 r_11 hr_12) ?_
 rintro _ w_19 ⟨col_21, ra_13, rc_14, ra_16, rc_17, rfl, hg_20, rh_15, rh_18⟩
 refine ⟨_, rfl, ?_⟩
 refine l_alloc (col := col_21) (v := (.agg #[(.bool false), (.slice none (([] : List Int).length) 0), (.slice none (([] : List Int).length) 0)])) 5 rfl Tryz.zeroValue40 ?_
 intro g_22 w_23 col_24 hg_25 hb_26
 replace hb_26 : Box 40 5 col_24 w_23 g_22 #[(.bool false), (.slice none (([] : List Int).length) 0), (.slice none (([] : List Int).length) 0)] := hb_26
 refine l_bstore (v := (.agg #[(.bool r_11.1.1), (.slice ra_13 r_11.1.2.length rc_14), (.slice ra_16 r_11.2.length rc_17)])) hb_26 Tryz.sizeOf40 rfl rfl (by intro u hu; simp only [Value.cells, List.mem_cons, List.not_mem_nil, or_false] at hu; rcases hu with rfl | rfl | rfl <;> rfl) rfl rfl ?_
 intro w_27 hk_28 hs_29 hb_30
 clear hb_26
 replace hb_30 : Box 40 5 col_24 w_27 g_22 #[(.bool r_11.1.1), (.slice ra_13 r_11.1.2.length rc_14), (.slice ra_16 r_11.2.length rc_17)] := hb_30
 refine lN (wS (wR ?_))
 refine lV (.agg #[(.bool r_11.1.1), (.slice ra_13 r_11.1.2.length rc_14), (.slice ra_16 r_11.2.length rc_17)]) (r_ldN Tryz.isAgg40 Tryz.sizeOf40 rfl rfl hb_30.atN) ?_
 refine l_lit (col := col_24) (r := (Rep.int .u32)) (xs := [1]) [(.int .u32 1)] 6 rfl Tryz.underlying36 el114_73 rfl rfl rfl rfl rfl rfl (by intro v hv; simp only [List.mem_cons, List.not_mem_nil, or_false] at hv; subst hv; rfl) (RowsH.ofF (Rows.consF (r := (Rep.int .u32)) (x := 1) (cs := [(.int .u32 1)]) (rd_int .u32 1) Rows.nil0)) ?_
 intro a_31 w_32 col_33 hg_34 h_35
 refine lV (.agg #[(.bool false), (.slice a_31 ([1].length) 1)]) (r_build (l := [_, _]) (qs := [(0, 1), (1, 1)]) Tryz.underlying38 Tryz.zeroValue38 ⟨rfl, Tryz.sizeOf4, rfl, Tryz.sizeOf36, trivial⟩ rfl) ?_
 refine l_lit (col := col_33) (r := (Rep.int .u32)) (xs := [2]) [(.int .u32 2)] 7 rfl Tryz.underlying36 el114_73 rfl rfl rfl rfl rfl rfl (by intro v hv; simp only [List.mem_cons, List.not_mem_nil, or_false] at hv; subst hv; rfl) (RowsH.ofF (Rows.consF (r := (Rep.int .u32)) (x := 2) (cs := [(.int .u32 2)]) (rd_int .u32 2) Rows.nil0)) ?_
 intro a_36 w_37 col_38 hg_39 h_40
 refine lV (.agg #[(.bool false), (.slice a_31 ([1].length) 1), (.slice a_36 ([2].length) 1)]) (r_build (l := [_, _]) (qs := [(0, 2), (2, 1)]) Tryz.underlying40 Tryz.zeroValue40 ⟨rfl, Tryz.sizeOf38, rfl, Tryz.sizeOf36, trivial⟩ rfl) ?_
 obtain ⟨r_41, hr_42, hm⟩ := bS hm
 replace rh_15 := (((rh_15.gr hg_25).kp hk_28).gr hg_34).gr hg_39
 replace rh_18 := (((rh_18.gr hg_25).kp hk_28).gr hg_34).gr hg_39
 replace h_35 := h_35.gr hg_39
 refine lc rfl rfl (r_call2 Tryz.call35 rfl rfl) (c_frac_Mul N 8 9 (frC 7 (frC 6 (frC 4 (frC 3 col_38)))) _ ra_13 rc_14 ra_16 rc_17 ((r_11.1.1, r_11.1.2), r_11.2) a_31 1 a_36 1 ((false, [1]), [2]) ((((rh_15.toSlF (Froz.int .u32)).froz 4).froz 6).froz 7) ((((rh_18.froz 3 (by decide)).toSlF (Froz.int .u32)).froz 6).froz 7) ((((h_35.froz 3 (by decide)).froz 4 (by decide)).toSlF (Froz.int .u32)).froz 7) ((((h_40.froz 3 (by decide)).froz 4 (by decide)).froz 6 (by decide)).toSlF (Froz.int .u32)) r_41 hr_42) ?_
 rintro _ w_49 ⟨col_51, ra_43, rc_44, ra_46, rc_47, rfl, hg_50, rh_45, rh_48⟩
 refine ⟨_, rfl, ?_⟩
 replace rh_45 := rh_45.thaw (flat_int .u32) hg_50 (((((Fz.refl (col := col_38)).froz 3).froz 4).froz 6).froz 7) (by decide)
 replace rh_48 := rh_48.thaw (flat_int .u32) hg_50 (((((Fz.refl (col := col_38)).froz 3).froz 4).froz 6).froz 7) (by decide)
 replace hg_50 := hg_50.thawR (col := col_38)
 generalize colR w_37.heap.size col_38 col_51 = col_52 at *
 refine l_alloc (col := col_52) (v := (.agg #[(.bool false), (.slice none (([] : List Int).length) 0), (.slice none (([] : List Int).length) 0)])) 10 rfl Tryz.zeroValue40 ?_
 intro g_53 w_54 col_55 hg_56 hb_57
 replace hb_57 : Box 40 10 col_55 w_54 g_53 #[(.bool false), (.slice none (([] : List Int).length) 0), (.slice none (([] : List Int).length) 0)] := hb_57
 refine l_bstore (v := (.agg #[(.bool r_41.1.1), (.slice ra_43 r_41.1.2.length rc_44), (.slice ra_46 r_41.2.length rc_47)])) hb_57 Tryz.sizeOf40 rfl rfl (by intro u hu; simp only [Value.cells, List.mem_cons, List.not_mem_nil, or_false] at hu; rcases hu with rfl | rfl | rfl <;> rfl) rfl rfl ?_
 intro w_58 hk_59 hs_60 hb_61
 clear hb_57
 replace hb_61 : Box 40 10 col_55 w_58 g_53 #[(.bool r_41.1.1), (.slice ra_43 r_41.1.2.length rc_44), (.slice ra_46 r_41.2.length rc_47)] := hb_61
 refine lN (wS (wS (wR ?_)))
 refine lM (.bool p1_upper) ?_
 refine lN ?_
 replace hst := (((((((((hst.grow hg_4).grow hg_9).grow hg_20).grow hg_25).kp hk_28 hs_29).grow hg_34).grow hg_39).grow hg_50).grow hg_56).kp hk_59 hs_60
 replace h0_4 := (((((((h0_4.gr hg_20).gr hg_25).kp hk_28).gr hg_34).gr hg_39).gr hg_50).gr hg_56).kp hk_59
 replace h0_6 := (((((((h0_6.gr hg_20).gr hg_25).kp hk_28).gr hg_34).gr hg_39).gr hg_50).gr hg_56).kp hk_59
 replace hb_5 := (((((((hb_5.gr hg_20).gr hg_25).kp hk_28).gr hg_34).gr hg_39).gr hg_50).gr hg_56).kp hk_59
 replace hb_10 := (((((((hb_10.gr hg_20).gr hg_25).kp hk_28).gr hg_34).gr hg_39).gr hg_50).gr hg_56).kp hk_59
 replace rh_45 := (rh_45.gr hg_56).kp hk_59
 replace rh_48 := (rh_48.gr hg_56).kp hk_59
 refine wcond (p1_upper) rfl (fun hb => ?_) (fun hb => ?_)
 ·rw [if_pos hb] at hm
  clear hb
  refine wS (wR ?_)
  refine lV (.agg #[(.bool r_41.1.1), (.slice ra_43 r_41.1.2.length rc_44), (.slice ra_46 r_41.2.length rc_47)]) (r_ldN Tryz.isAgg40 Tryz.sizeOf40 rfl rfl hb_61.atN) ?_
  refine lV (.pointer ((some (⟨g_1, 0, none⟩ : Addr)).map (·.add 3))) (rF (sz := 3) (off := 3) Tryz.underlying62 rfl Tryz.sizeOf40 (by decide) rfl rfl ⟨_, _, rfl⟩) ?_
  refine lV (.agg #[(.bool p0_s.2.1.1), (.slice a0_4 p0_s.2.1.2.length cap0_4), (.slice a0_6 p0_s.2.2.length cap0_6)]) (r_ldN Tryz.isAgg40 Tryz.sizeOf40 rfl rfl ((hb_5.atN).part 3 3 _ rfl)) ?_
  refine lV (.agg #[(.bool r_41.1.1), (.slice ra_43 r_41.1.2.length rc_44), (.slice ra_46 r_41.2.length rc_47), (.bool p0_s.2.1.1), (.slice a0_4 p0_s.2.1.2.length cap0_4), (.slice a0_6 p0_s.2.2.length cap0_6)]) (r_build (l := [_, _]) (qs := [(0, 3), (3, 3)]) Tryz.underlying62 Tryz.zeroValue62 ⟨rfl, Tryz.sizeOf40, rfl, Tryz.sizeOf40, trivial⟩ rfl) ?_
  refine l_bstore (v := (.agg #[(.bool r_41.1.1), (.slice ra_43 r_41.1.2.length rc_44), (.slice ra_46 r_41.2.length rc_47), (.bool p0_s.2.1.1), (.slice a0_4 p0_s.2.1.2.length cap0_4), (.slice a0_6 p0_s.2.2.length cap0_6)])) hb_10 Tryz.sizeOf62 rfl rfl (by intro u hu; simp only [Value.cells, List.mem_cons, List.not_mem_nil, or_false] at hu; rcases hu with rfl | rfl | rfl | rfl | rfl | rfl <;> rfl) rfl rfl ?_
  intro w_62 hk_63 hs_64 hb_65
  clear hb_10
  replace hb_65 : Box 62 2 col_55 w_62 g_6 #[(.bool r_41.1.1), (.slice ra_43 r_41.1.2.length rc_44), (.slice ra_46 r_41.2.length rc_47), (.bool p0_s.2.1.1), (.slice a0_4 p0_s.2.1.2.length cap0_4), (.slice a0_6 p0_s.2.2.length cap0_6)] := hb_65
  refine lN ?_
  refine wret ?_
  replace rh_45 := rh_45.kp hk_63
  replace rh_45 := (rh_45).toSlF (Froz.int .u32)
  replace rh_48 := rh_48.kp hk_63
  replace rh_48 := rh_48.froz 8 (by decide)
  replace h0_4 := h0_4.kp hk_63
  replace h0_4 := h0_4.froz 8
  replace h0_6 := h0_6.kp hk_63
  replace h0_6 := h0_6.froz 8
  replace hb_65 := hb_65.froz 8 (by decide)
  replace hst := hst.kp hk_63 hs_64
  replace hst := hst.froz 8 (by decide) (by decide)
  replace rh_45 := rh_45.froz 9
  replace rh_48 := (rh_48).toSlF (Froz.int .u32)
  replace h0_4 := h0_4.froz 9
  replace h0_6 := h0_6.froz 9
  replace hb_65 := hb_65.froz 9 (by decide)
  replace hst := hst.froz 9 (by decide) (by decide)
  cases hm
  exact ⟨rfl, _, res_a rfl rfl Tryz.isAgg62 Tryz.sizeOf62 rfl rfl hb_65.atN, colF w0.heap.size col (frC 9 (frC 8 col_55)) (fun n => 0), ra_43, rc_44, ra_46, rc_47, a0_4, cap0_4, a0_6, cap0_6, rfl, hst.fin (fun n => 0), hst.finSl (g := (fun n => 0)) rfl rh_45, hst.finSl (g := (fun n => 0)) rfl rh_48, hst.finSl (g := (fun n => 0)) rfl h0_4, hst.finSl (g := (fun n => 0)) rfl h0_6⟩
 rw [if_neg (by rw [hb]; decide)] at hm
 clear hb
 cases hm

end Go.Proofs.YtonkjfnjadofpaaGreat
