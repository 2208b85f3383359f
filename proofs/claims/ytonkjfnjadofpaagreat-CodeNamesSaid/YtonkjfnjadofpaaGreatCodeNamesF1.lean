/-
  What functions of the program compute, as plain Lean functions (m_..), and proofs that they compute it (c_..). Printed by a program of the author; no conditions.
-/
import Derived.Test.YtonkjfnjadofpaaGreatCodeNamesBFloat
import Derived.Test.YtonkjfnjadofpaaGreatProg
set_option linter.unusedVariables false
set_option maxRecDepth 100000
set_option maxHeartbeats 2000000
namespace Go.Proofs.YtonkjfnjadofpaaGreat
open Go Go.RowKit

theorem el114_159 : ElemOk Tryz.prog 114 1 4 := ⟨Tryz.t114, _, rfl, rfl, rfl, rfl, rfl⟩
def m_r01_Norm_J1 (p0_a : (List Int)) (n_4 : Int) (kk_L1 : (Int → Option (List Int))) (v_13 : Bool) : Option (List Int) :=
  if v_13 = true then (kk_L1 (IntKind.i64.wrap (n_4 - 1))) else (chk ((0 : Int) ≤ n_4 ∧ n_4 ≤ (p0_a.length : Int)) (chk ((([] : List Int).length + (p0_a.take (Int.toNat n_4)).length) * 4 ≤ 140737488355328 ∧ ([] : List Int).length + (p0_a.take (Int.toNat n_4)).length ≤ maxLen) (some (([] : List Int) ++ (p0_a.take (Int.toNat n_4))))))
def m_r01_Norm_L1 (N : Nat) (p0_a : (List Int)) : Nat → Int → Option (List Int)
  | 0, _ => none
  | n_1 + 1, n_4 => if (decide (0 < n_4)) = true then ((at? p0_a (IntKind.i64.wrap (n_4 - 1))).bind fun e_23 => m_r01_Norm_J1 p0_a n_4 (m_r01_Norm_L1 N p0_a n_1) (decide (e_23 = 0))) else (m_r01_Norm_J1 p0_a n_4 (m_r01_Norm_L1 N p0_a n_1) false)
termination_by structural x => x
def m_r01_Norm (N : Nat) (p0_a : (List Int)) : Option (List Int) :=
  m_r01_Norm_L1 N p0_a N (p0_a.length : Int)
theorem c_r01_Norm (N : Nat) (c1 : Nat) (col : Col) (w0 : World) (a0 : Option Addr) (cap0 : Nat) (p0_a : (List Int)) (h0 : Sl (Rep.int .u32) col w0 a0 cap0 p0_a) (r : (List Int)) (hm : m_r01_Norm N p0_a = some r) :
    Calls Tryz.prog 159 #[(.slice a0 p0_a.length cap0)] w0 (fun e w' => ∃ (col' : Col) (ra1 : Option Addr) (rc2 : Nat), e = .returned ((.slice ra1 r.length rc2)) ∧ Grow col w0 col' w' ∧ Own (Rep.int .u32) 114 c1 col' w' ra1 rc2 r) := by
 refine calls_of1 2 (m := 24) (args := [(.slice a0 p0_a.length cap0)]) Tryz.func159 rfl rfl rfl rfl rfl ?_
 rw [m_r01_Norm.eq_1] at hm
 have hst := St.start col w0
 refine wS (wR ?_)
 refine lA (.slice none (([] : List Int).length) 0) ?_
 refine lN (wS (wR ?_))
 refine lM (.slice a0 p0_a.length cap0) ?_
 refine lV (.int .i64 (p0_a.length : Int)) (r_len Tryz.underlying36 rfl) ?_
 refine lA (.int .i64 (p0_a.length : Int)) ?_
 refine lN (wS (wB ?_))
 replace h0 := h0.keep (Stay.start col w0)
 refine wloop (fun n f w_2 => ∃ (col_3 : Col) (n_4 : Int) (n_1 : Nat), n_1 = n ∧ m_r01_Norm_L1 N p0_a n_1 n_4 = some r ∧ St w0 (col0 col) col_3 w_2 ∧ Sl (Rep.int .u32) col_3 w_2 a0 cap0 p0_a ∧ f 0 = (.slice a0 p0_a.length cap0) ∧ f 3 = (.int .i64 n_4) ∧ f 1000000 = (enc [])) N ⟨(col0 col), (p0_a.length : Int), N, rfl, hm, hst, h0, rfl, rfl, rfl⟩ ?_
 clear hm; intro n f w_2 hI
 obtain ⟨col_3, n_4, n_1, hn, hm, hst, h0, hs0, hs3, hs1000000⟩ := hI
 subst hn
 refine .lD 0 hs0 ?_
 refine .lD 3 hs3 ?_
 refine .lD 1000000 hs1000000 ?_
 clear hs0 hs3 hs1000000
 cases n_1 with
 | zero => rw [m_r01_Norm_L1.eq_1] at hm; cases hm
 | succ n_1 =>
  rw [m_r01_Norm_L1.eq_2] at hm
  refine wS (wS ?_)
  refine Wp.cut (fun f w_11 => ∃ (col_12 : Col) (v_13 : Bool), m_r01_Norm_J1 p0_a n_4 (m_r01_Norm_L1 N p0_a n_1) v_13 = some r ∧ St w0 (col0 col) col_12 w_11 ∧ Sl (Rep.int .u32) col_12 w_11 a0 cap0 p0_a ∧ f 0 = (.slice a0 p0_a.length cap0) ∧ f 16 = (.bool v_13) ∧ f 3 = (.int .i64 n_4) ∧ f 1000000 = (enc [])) ?_ ?_
  ·intro f w_11 hJ
   obtain ⟨col_12, v_13, hm, hst, h0, hs0, hs16, hs3, hs1000000⟩ := hJ
   rw [m_r01_Norm_J1.eq_1] at hm
   refine .lD 0 hs0 ?_
   refine .lD 16 hs16 ?_
   refine .lD 3 hs3 ?_
   refine .lD 1000000 hs1000000 ?_
   clear hs0 hs16 hs3 hs1000000
   refine wcond (v_13) rfl (fun hb => ?_) (fun hb => ?_)
   ·rw [if_pos hb] at hm
    clear hb
    refine wK (wB (wR ?_))
    refine lM (.int .i64 n_4) ?_
    refine lV (.int .i64 (IntKind.i64.wrap (n_4 - 1))) (r_sub n_4 1 rfl rfl) ?_
    refine lA (.int .i64 (IntKind.i64.wrap (n_4 - 1))) ?_
    refine lN ?_
    exact ⟨n_1, by omega, ⟨col_12, (IntKind.i64.wrap (n_4 - 1)), n_1, rfl, hm, hst, h0, rfl, rfl, rfl⟩⟩
   rw [if_neg (by rw [hb]; decide)] at hm
   clear hb
   refine wexit (inB_hit ?_)
   refine wS (wR ?_)
   refine lA (.slice none (([] : List Int).length) 0) ?_
   refine lN (wS (wR ?_))
   refine lM (.slice none (([] : List Int).length) 0) ?_
   refine lM (.slice a0 p0_a.length cap0) ?_
   refine lM (.int .i64 n_4) ?_
   obtain ⟨hb_14, hm⟩ := cS hm
   refine lv (v := .slice a0 (Int.toNat n_4) cap0) rfl rfl (r_sliceH Tryz.underlying36 Tryz.sizeOf114 rfl rfl hb_14.1 (by have := h0.1.2; have := hb_14.2; omega)) ?_
   refine .ld (d := 22) (v := (.slice a0 ((p0_a.take (Int.toNat n_4)).length) cap0)) (congrArg (fun n => Value.slice a0 n cap0) (List.length_take_of_le (show (Int.toNat n_4) ≤ p0_a.length by have := hb_14.2; omega)).symm) ?_
   obtain ⟨hb_15, hm⟩ := cS hm
   refine l_appendM (col := col_12) (w := w_11) (r := (Rep.int .u32)) (c := 1) (c2 := 1) (xs := ([] : List Int)) (ys := p0_a.take (Int.toNat n_4)) Own.nil (h0.take (Int.toNat n_4)).srcC rfl Tryz.underlying36 el114_159 rfl rfl rfl hb_15.1 hb_15.2 (by decide) ?_
   intro a_16 cap_17 w_18 col_19 hk_20 h_21
   refine lA (.slice a_16 ((([] : List Int) ++ (p0_a.take (Int.toNat n_4))).length) cap_17) ?_
   refine lN ?_
   refine wret ?_
   cases hm
   replace hst := hst.kpp hk_20
   exact ⟨rfl, colF w0.heap.size col col_19 (fun n => bif Nat.beq n 1 then c1 else 0), a_16, cap_17, rfl, hst.fin (fun n => bif Nat.beq n 1 then c1 else 0), hst.finOwn (g := (fun n => bif Nat.beq n 1 then c1 else 0)) rfl h_21 (by decide) (by decide) rfl⟩
  refine wR ?_
  refine lM (.int .i64 n_4) ?_
  refine lV (.bool (decide (0 < n_4))) (r_gtr n_4 0 rfl rfl) ?_
  refine lM (.bool (decide (0 < n_4))) ?_
  by_cases hg_22 : (decide (0 < n_4)) = true
  ·rw [if_pos hg_22] at hm
   refine lg (b := decide (0 < n_4)) 9 rfl rfl rfl (by rw [hg_22]; rfl) ?_
   refine lM (.slice a0 p0_a.length cap0) ?_
   refine lg (b := decide (0 < n_4)) 9 rfl rfl rfl (by rw [hg_22]; rfl) ?_
   refine lM (.int .i64 n_4) ?_
   refine lg (b := decide (0 < n_4)) 9 rfl rfl rfl (by rw [hg_22]; rfl) ?_
   refine lV (.int .i64 (IntKind.i64.wrap (n_4 - 1))) (r_sub n_4 1 rfl rfl) ?_
   refine lg (b := decide (0 < n_4)) 9 rfl rfl rfl (by rw [hg_22]; rfl) ?_
   obtain ⟨e_23, hj_24, hm⟩ := bS hm
   refine lV (sptr a0 (Int.toNat (IntKind.i64.wrap (n_4 - 1)) * 1)) (r_idx Tryz.underlying36 Tryz.sizeOf114 rfl rfl (at?_some hj_24).1 (at?_some hj_24).2.1 (h0.addr hj_24)) ?_
   refine lg (b := decide (0 < n_4)) 9 rfl rfl rfl (by rw [hg_22]; rfl) ?_
   refine lV (.int .u32 e_23) (r_ld Tryz.isAgg114 rfl (h0.atInt hj_24)) ?_
   refine lg (b := decide (0 < n_4)) 9 rfl rfl rfl (by rw [hg_22]; rfl) ?_
   refine lV (.bool (decide (e_23 = 0))) (r_eql e_23 0 rfl rfl) ?_
   refine lV (.bool (decide (e_23 = 0))) (r_pickT (congrArg Value.bool hg_22) rfl) ?_
   refine lN ?_
   exact ⟨col_3, (decide (e_23 = 0)), hm, hst, h0, rfl, rfl, rfl, rfl⟩
  rw [if_neg hg_22] at hm
  replace hg_22 := Bool.eq_false_iff.2 hg_22
  refine lp (b := decide (0 < n_4)) 9 rfl rfl rfl rfl (by rw [hg_22]; rfl) ?_
  refine lp (b := decide (0 < n_4)) 9 rfl rfl rfl rfl (by rw [hg_22]; rfl) ?_
  refine lp (b := decide (0 < n_4)) 9 rfl rfl rfl rfl (by rw [hg_22]; rfl) ?_
  refine lp (b := decide (0 < n_4)) 9 rfl rfl rfl rfl (by rw [hg_22]; rfl) ?_
  refine lp (b := decide (0 < n_4)) 9 rfl rfl rfl rfl (by rw [hg_22]; rfl) ?_
  refine lp (b := decide (0 < n_4)) 9 rfl rfl rfl rfl (by rw [hg_22]; rfl) ?_
  refine lV (.bool false) (r_pickF (congrArg Value.bool hg_22) rfl) ?_
  refine lN ?_
  exact ⟨col_3, false, hm, hst, h0, rfl, rfl, rfl, rfl⟩
theorem el114_162 : ElemOk Tryz.prog 114 1 4 := ⟨Tryz.t114, _, rfl, rfl, rfl, rfl, rfl⟩
def m_r01_Of (N : Nat) (p0_u : Int) : Option (List Int) :=
  (m_r01_Norm N [IntKind.u32.wrap (Int.tmod p0_u 4294967296), IntKind.u32.wrap (IntKind.u64.wrap (Int.tdiv p0_u 4294967296))]).bind fun r_6 => some r_6
theorem c_r01_Of (N : Nat) (c1 : Nat) (col : Col) (w0 : World) (p0_u : Int) (r : (List Int)) (hm : m_r01_Of N p0_u = some r) :
    Calls Tryz.prog 162 #[(.int .u64 p0_u)] w0 (fun e w' => ∃ (col' : Col) (ra1 : Option Addr) (rc2 : Nat), e = .returned ((.slice ra1 r.length rc2)) ∧ Grow col w0 col' w' ∧ Own (Rep.int .u32) 114 c1 col' w' ra1 rc2 r) := by
 refine calls_of1 2 (m := 11) (args := [(.int .u64 p0_u)]) Tryz.func162 rfl rfl rfl rfl rfl ?_
 rw [m_r01_Of.eq_1] at hm
 have hst := St.start col w0
 refine wS (wR ?_)
 refine lA (.slice none (([] : List Int).length) 0) ?_
 refine lN (wS (wR ?_))
 refine lM (.int .u64 p0_u) ?_
 refine lV (.int .u64 (Int.tmod p0_u 4294967296)) (r_rem p0_u 4294967296 rfl rfl (by decide)) ?_
 refine lV (.int .u32 (IntKind.u32.wrap (Int.tmod p0_u 4294967296))) (r_conv (Int.tmod p0_u 4294967296) ⟨_, Tryz.underlying108⟩ Tryz.underlying114 rfl) ?_
 refine lM (.int .u64 p0_u) ?_
 refine lV (.int .u64 (IntKind.u64.wrap (Int.tdiv p0_u 4294967296))) (r_quo p0_u 4294967296 rfl rfl (by decide)) ?_
 refine lV (.int .u32 (IntKind.u32.wrap (IntKind.u64.wrap (Int.tdiv p0_u 4294967296)))) (r_conv (IntKind.u64.wrap (Int.tdiv p0_u 4294967296)) ⟨_, Tryz.underlying108⟩ Tryz.underlying114 rfl) ?_
 refine l_lit (col := (col0 col)) (r := (Rep.int .u32)) (xs := [IntKind.u32.wrap (Int.tmod p0_u 4294967296), IntKind.u32.wrap (IntKind.u64.wrap (Int.tdiv p0_u 4294967296))]) [(.int .u32 (IntKind.u32.wrap (Int.tmod p0_u 4294967296))), (.int .u32 (IntKind.u32.wrap (IntKind.u64.wrap (Int.tdiv p0_u 4294967296))))] 1 rfl Tryz.underlying36 el114_162 rfl rfl rfl rfl rfl rfl (by intro v hv; simp only [List.mem_cons, List.not_mem_nil, or_false] at hv; rcases hv with rfl | rfl <;> rfl) (RowsH.ofF (Rows.consF (r := (Rep.int .u32)) (x := IntKind.u32.wrap (Int.tmod p0_u 4294967296)) (cs := [(.int .u32 (IntKind.u32.wrap (Int.tmod p0_u 4294967296)))]) (rd_int .u32 (IntKind.u32.wrap (Int.tmod p0_u 4294967296))) (Rows.consF (r := (Rep.int .u32)) (x := IntKind.u32.wrap (IntKind.u64.wrap (Int.tdiv p0_u 4294967296))) (cs := [(.int .u32 (IntKind.u32.wrap (IntKind.u64.wrap (Int.tdiv p0_u 4294967296))))]) (rd_int .u32 (IntKind.u32.wrap (IntKind.u64.wrap (Int.tdiv p0_u 4294967296)))) Rows.nil0))) ?_
 intro a_1 w_2 col_3 hg_4 h_5
 obtain ⟨r_6, hr_7, hm⟩ := bS hm
 refine lc rfl rfl (r_call1 Tryz.call159 rfl) (c_r01_Norm N 2 (frC 1 col_3) _ a_1 2 [IntKind.u32.wrap (Int.tmod p0_u 4294967296), IntKind.u32.wrap (IntKind.u64.wrap (Int.tdiv p0_u 4294967296))] (h_5.toSlF (Froz.int .u32)) r_6 hr_7) ?_
 rintro _ w_11 ⟨col_13, ra_8, rc_9, rfl, hg_12, rh_10⟩
 refine ⟨_, rfl, ?_⟩
 replace rh_10 := rh_10.thaw (flat_int .u32) hg_12 ((Fz.refl (col := col_3)).froz 1) (by decide)
 replace hg_12 := hg_12.thawR (col := col_3)
 generalize colR w_2.heap.size col_3 col_13 = col_14 at *
 refine lA (.slice ra_8 r_6.length rc_9) ?_
 refine lN ?_
 refine wret ?_
 cases hm
 replace hst := (hst.grow hg_4).grow hg_12
 exact ⟨rfl, colF w0.heap.size col col_14 (fun n => bif Nat.beq n 2 then c1 else 0), ra_8, rc_9, rfl, hst.fin (fun n => bif Nat.beq n 2 then c1 else 0), hst.finOwn (g := (fun n => bif Nat.beq n 2 then c1 else 0)) rfl rh_10 (by decide) (by decide) rfl⟩
def m_r02_Make_J1 (v_16 : Bool) (v_17 : List Int) : Option (Bool × (List Int)) :=
  some (v_16, v_17)
def m_r02_Make (N : Nat) (p0_neg : Bool) (p1_mag : (List Int)) : Option (Bool × (List Int)) :=
  (m_r01_Norm N p1_mag).bind fun r_6 => if p0_neg = true then (m_r02_Make_J1 (decide (0 < (r_6.length : Int))) r_6) else (m_r02_Make_J1 false r_6)
theorem c_r02_Make (N : Nat) (c1 : Nat) (col : Col) (w0 : World) (p0_neg : Bool) (a1 : Option Addr) (cap1 : Nat) (p1_mag : (List Int)) (h1 : Sl (Rep.int .u32) col w0 a1 cap1 p1_mag) (r : (Bool × (List Int))) (hm : m_r02_Make N p0_neg p1_mag = some r) :
    Calls Tryz.prog 157 #[(.bool p0_neg), (.slice a1 p1_mag.length cap1)] w0 (fun e w' => ∃ (col' : Col) (ra1 : Option Addr) (rc2 : Nat), e = .returned ((.agg #[(.bool r.1), (.slice ra1 r.2.length rc2)])) ∧ Grow col w0 col' w' ∧ Own (Rep.int .u32) 114 c1 col' w' ra1 rc2 r.2) := by
 refine calls_ofR (m := 16) (args := [(.bool p0_neg), (.slice a1 p1_mag.length cap1)]) Tryz.func157 rfl rfl rfl ?_
 rw [m_r02_Make.eq_1] at hm
 have hst := St.start col w0
 refine wS (wR ?_)
 refine l_alloc (col := (col0 col)) (v := (.agg #[(.bool false), (.slice none (([] : List Int).length) 0)])) 1 rfl Tryz.zeroValue38 ?_
 intro g_1 w_2 col_3 hg_4 hb_5
 replace hb_5 : Box 38 1 col_3 w_2 g_1 #[(.bool false), (.slice none (([] : List Int).length) 0)] := hb_5
 refine lN (wS (wR ?_))
 refine lM (.slice a1 p1_mag.length cap1) ?_
 obtain ⟨r_6, hr_7, hm⟩ := bS hm
 replace h1 := (h1.keep (Stay.start col w0)).gr hg_4
 refine lc rfl rfl (r_call1 Tryz.call159 rfl) (c_r01_Norm N 2 col_3 _ a1 cap1 p1_mag h1 r_6 hr_7) ?_
 rintro _ w_11 ⟨col_13, ra_8, rc_9, rfl, hg_12, rh_10⟩
 refine ⟨_, rfl, ?_⟩
 refine lA (.slice ra_8 r_6.length rc_9) ?_
 refine lN (wS ?_)
 replace hst := (hst.grow hg_4).grow hg_12
 replace hb_5 := hb_5.gr hg_12
 refine Wp.cut (fun f w_14 => ∃ (col_15 : Col) (v_16 : Bool) (a_18 : Option Addr) (cap_19 : Nat) (v_17 : List Int), m_r02_Make_J1 v_16 v_17 = some r ∧ St w0 (col0 col) col_15 w_14 ∧ Own (Rep.int .u32) 114 3 col_15 w_14 a_18 cap_19 v_17 ∧ Box 38 1 col_15 w_14 g_1 #[(.bool v_16), (.slice a_18 v_17.length cap_19)] ∧ f 4 = (.pointer (some ⟨g_1, 0, none⟩)) ∧ f 1000000 = (enc [])) ?_ ?_
 ·intro f w_14 hJ
  obtain ⟨col_15, v_16, a_18, cap_19, v_17, hm, hst, h_20, hb_5, hs4, hs1000000⟩ := hJ
  rw [m_r02_Make_J1.eq_1] at hm
  refine .lD 4 hs4 ?_
  refine .lD 1000000 hs1000000 ?_
  clear hs4 hs1000000
  refine wret ?_
  cases hm
  exact ⟨rfl, _, res_a rfl rfl Tryz.isAgg38 Tryz.sizeOf38 rfl rfl hb_5.atN, colF w0.heap.size col col_15 (fun n => bif Nat.beq n 3 then c1 else 0), a_18, cap_19, rfl, hst.fin (fun n => bif Nat.beq n 3 then c1 else 0), hst.finOwn (g := (fun n => bif Nat.beq n 3 then c1 else 0)) rfl h_20 (by decide) (by decide) rfl⟩
 refine wR ?_
 refine lM (.bool p0_neg) ?_
 refine lM (.bool p0_neg) ?_
 by_cases hg_21 : p0_neg = true
 ·rw [if_pos hg_21] at hm
  refine lg (b := p0_neg) 9 rfl rfl rfl (by rw [hg_21]; rfl) ?_
  refine lM (.slice ra_8 r_6.length rc_9) ?_
  refine lg (b := p0_neg) 9 rfl rfl rfl (by rw [hg_21]; rfl) ?_
  refine lV (.int .i64 (r_6.length : Int)) (r_len Tryz.underlying36 rfl) ?_
  refine lg (b := p0_neg) 9 rfl rfl rfl (by rw [hg_21]; rfl) ?_
  refine lV (.bool (decide (0 < (r_6.length : Int)))) (r_gtr (r_6.length : Int) 0 rfl rfl) ?_
  refine lV (.bool (decide (0 < (r_6.length : Int)))) (r_pickT (congrArg Value.bool hg_21) rfl) ?_
  refine lM (.slice ra_8 r_6.length rc_9) ?_
  refine lV (.agg #[(.bool (decide (0 < (r_6.length : Int)))), (.slice ra_8 r_6.length rc_9)]) (r_build (l := [_, _]) (qs := [(0, 1), (1, 1)]) Tryz.underlying38 Tryz.zeroValue38 ⟨rfl, Tryz.sizeOf4, rfl, Tryz.sizeOf36, trivial⟩ rfl) ?_
  refine l_bstore (v := (.agg #[(.bool (decide (0 < (r_6.length : Int)))), (.slice ra_8 r_6.length rc_9)])) hb_5 Tryz.sizeOf38 rfl rfl (by intro u hu; simp only [Value.cells, List.mem_cons, List.not_mem_nil, or_false] at hu; rcases hu with rfl | rfl <;> rfl) rfl rfl ?_
  intro w_22 hk_23 hs_24 hb_25
  clear hb_5
  replace hb_25 : Box 38 1 col_13 w_22 g_1 #[(.bool (decide (0 < (r_6.length : Int)))), (.slice ra_8 r_6.length rc_9)] := hb_25
  refine lN ?_
  replace rh_10 := rh_10.kp hk_23
  replace rh_10 := rh_10.recolSelf 3 (by decide)
  replace hb_25 := hb_25.recol 2 3 (by decide)
  replace hst := hst.kp hk_23 hs_24
  replace hst := hst.recol 2 3 (by decide) (by decide)
  exact ⟨(rcC 2 3 col_13), (decide (0 < (r_6.length : Int))), ra_8, rc_9, r_6, hm, hst, rh_10, hb_25, rfl, rfl⟩
 rw [if_neg hg_21] at hm
 replace hg_21 := Bool.eq_false_iff.2 hg_21
 refine lp (b := p0_neg) 9 rfl rfl rfl rfl (by rw [hg_21]; rfl) ?_
 refine lp (b := p0_neg) 9 rfl rfl rfl rfl (by rw [hg_21]; rfl) ?_
 refine lp (b := p0_neg) 9 rfl rfl rfl rfl (by rw [hg_21]; rfl) ?_
 refine lV (.bool false) (r_pickF (congrArg Value.bool hg_21) rfl) ?_
 refine lM (.slice ra_8 r_6.length rc_9) ?_
 refine lV (.agg #[(.bool false), (.slice ra_8 r_6.length rc_9)]) (r_build (l := [_, _]) (qs := [(0, 1), (1, 1)]) Tryz.underlying38 Tryz.zeroValue38 ⟨rfl, Tryz.sizeOf4, rfl, Tryz.sizeOf36, trivial⟩ rfl) ?_
 refine l_bstore (v := (.agg #[(.bool false), (.slice ra_8 r_6.length rc_9)])) hb_5 Tryz.sizeOf38 rfl rfl (by intro u hu; simp only [Value.cells, List.mem_cons, List.not_mem_nil, or_false] at hu; rcases hu with rfl | rfl <;> rfl) rfl rfl ?_
 intro w_26 hk_27 hs_28 hb_29
 clear hb_5
 replace hb_29 : Box 38 1 col_13 w_26 g_1 #[(.bool false), (.slice ra_8 r_6.length rc_9)] := hb_29
 refine lN ?_
 replace rh_10 := rh_10.kp hk_27
 replace rh_10 := rh_10.recolSelf 3 (by decide)
 replace hb_29 := hb_29.recol 2 3 (by decide)
 replace hst := hst.kp hk_27 hs_28
 replace hst := hst.recol 2 3 (by decide) (by decide)
 exact ⟨(rcC 2 3 col_13), false, ra_8, rc_9, r_6, hm, hst, rh_10, hb_29, rfl, rfl⟩
def m_r02_Of (N : Nat) (p0_n : Int) : Option (Bool × (List Int)) :=
  if (decide (0 ≤ p0_n)) = true then ((m_r01_Of N (IntKind.u64.wrap p0_n)).bind fun r_6 => (m_r02_Make N false r_6).bind fun r_14 => some (r_14.1, r_14.2)) else none
theorem c_r02_Of (N : Nat) (c1 : Nat) (col : Col) (w0 : World) (p0_n : Int) (r : (Bool × (List Int))) (hm : m_r02_Of N p0_n = some r) :
    Calls Tryz.prog 137 #[(.int .i64 p0_n)] w0 (fun e w' => ∃ (col' : Col) (ra1 : Option Addr) (rc2 : Nat), e = .returned ((.agg #[(.bool r.1), (.slice ra1 r.2.length rc2)])) ∧ Grow col w0 col' w' ∧ Own (Rep.int .u32) 114 c1 col' w' ra1 rc2 r.2) := by
 refine calls_ofR (m := 17) (args := [(.int .i64 p0_n)]) Tryz.func137 rfl rfl rfl ?_
 rw [m_r02_Of.eq_1] at hm
 have hst := St.start col w0
 refine wS (wR ?_)
 refine l_alloc (col := (col0 col)) (v := (.agg #[(.bool false), (.slice none (([] : List Int).length) 0)])) 1 rfl Tryz.zeroValue38 ?_
 intro g_1 w_2 col_3 hg_4 hb_5
 replace hb_5 : Box 38 1 col_3 w_2 g_1 #[(.bool false), (.slice none (([] : List Int).length) 0)] := hb_5
 refine lN (wS (wS (wR ?_)))
 refine lM (.int .i64 p0_n) ?_
 refine lV (.bool (decide (0 ≤ p0_n))) (r_geq p0_n 0 rfl rfl) ?_
 refine lN ?_
 replace hst := hst.grow hg_4
 refine wcond (decide (0 ≤ p0_n)) rfl (fun hb => ?_) (fun hb => ?_)
 ·rw [if_pos hb] at hm
  clear hb
  refine wS (wR ?_)
  refine lM (.int .i64 p0_n) ?_
  refine lV (.int .u64 (IntKind.u64.wrap p0_n)) (r_conv p0_n ⟨_, Tryz.underlying3⟩ Tryz.underlying108 rfl) ?_
  obtain ⟨r_6, hr_7, hm⟩ := bS hm
  refine lc rfl rfl (r_call1 Tryz.call162 rfl) (c_r01_Of N 2 col_3 _ (IntKind.u64.wrap p0_n) r_6 hr_7) ?_
  rintro _ w_11 ⟨col_13, ra_8, rc_9, rfl, hg_12, rh_10⟩
  refine ⟨_, rfl, ?_⟩
  obtain ⟨r_14, hr_15, hm⟩ := bS hm
  refine lc rfl rfl (r_call2 Tryz.call157 rfl rfl) (c_r02_Make N 3 (frC 2 col_13) _ false ra_8 rc_9 r_6 (rh_10.toSlF (Froz.int .u32)) r_14 hr_15) ?_
  rintro _ w_19 ⟨col_21, ra_16, rc_17, rfl, hg_20, rh_18⟩
  refine ⟨_, rfl, ?_⟩
  replace rh_18 := rh_18.thaw (flat_int .u32) hg_20 ((Fz.refl (col := col_13)).froz 2) (by decide)
  replace hg_20 := hg_20.thawR (col := col_13)
  generalize colR w_11.heap.size col_13 col_21 = col_22 at *
  replace hb_5 := (hb_5.gr hg_12).gr hg_20
  refine l_bstore (v := (.agg #[(.bool r_14.1), (.slice ra_16 r_14.2.length rc_17)])) hb_5 Tryz.sizeOf38 rfl rfl (by intro u hu; simp only [Value.cells, List.mem_cons, List.not_mem_nil, or_false] at hu; rcases hu with rfl | rfl <;> rfl) rfl rfl ?_
  intro w_23 hk_24 hs_25 hb_26
  clear hb_5
  replace hb_26 : Box 38 1 col_22 w_23 g_1 #[(.bool r_14.1), (.slice ra_16 r_14.2.length rc_17)] := hb_26
  refine lN ?_
  refine wret ?_
  cases hm
  replace hst := ((hst.grow hg_12).grow hg_20).kp hk_24 hs_25
  replace rh_18 := rh_18.kp hk_24
  exact ⟨rfl, _, res_a rfl rfl Tryz.isAgg38 Tryz.sizeOf38 rfl rfl hb_26.atN, colF w0.heap.size col col_22 (fun n => bif Nat.beq n 3 then c1 else 0), ra_16, rc_17, rfl, hst.fin (fun n => bif Nat.beq n 3 then c1 else 0), hst.finOwn (g := (fun n => bif Nat.beq n 3 then c1 else 0)) rfl rh_18 (by decide) (by decide) rfl⟩
 rw [if_neg (by rw [hb]; decide)] at hm
 clear hb
 cases hm
def m_r02_Norm (N : Nat) (p0_a : (Bool × (List Int))) : Option (Bool × (List Int)) :=
  (m_r02_Make N p0_a.1 p0_a.2).bind fun r_11 => some (r_11.1, r_11.2)
theorem c_r02_Norm (N : Nat) (c1 : Nat) (col : Col) (w0 : World) (a0_0 : Option Addr) (cap0_0 : Nat) (p0_a : (Bool × (List Int))) (h0_0 : Sl (Rep.int .u32) col w0 a0_0 cap0_0 p0_a.2) (r : (Bool × (List Int))) (hm : m_r02_Norm N p0_a = some r) :
    Calls Tryz.prog 177 #[(.agg #[(.bool p0_a.1), (.slice a0_0 p0_a.2.length cap0_0)])] w0 (fun e w' => ∃ (col' : Col) (ra1 : Option Addr) (rc2 : Nat), e = .returned ((.agg #[(.bool r.1), (.slice ra1 r.2.length rc2)])) ∧ Grow col w0 col' w' ∧ Own (Rep.int .u32) 114 c1 col' w' ra1 rc2 r.2) := by
 refine calls_ofR (m := 8) (args := [(.agg #[(.bool p0_a.1), (.slice a0_0 p0_a.2.length cap0_0)])]) Tryz.func177 rfl rfl rfl ?_
 rw [m_r02_Norm.eq_1] at hm
 have hst := St.start col w0
 refine wS (wR ?_)
 refine l_box (col := (col0 col)) (v := (.agg #[(.bool p0_a.1), (.slice a0_0 p0_a.2.length cap0_0)])) 1 rfl rfl ?_
 intro g_1 w_2 col_3 hg_4 hb_5
 replace hb_5 : Box 38 1 col_3 w_2 g_1 #[(.bool p0_a.1), (.slice a0_0 p0_a.2.length cap0_0)] := hb_5
 refine l_alloc (col := col_3) (v := (.agg #[(.bool false), (.slice none (([] : List Int).length) 0)])) 2 rfl Tryz.zeroValue38 ?_
 intro g_6 w_7 col_8 hg_9 hb_10
 replace hb_10 : Box 38 2 col_8 w_7 g_6 #[(.bool false), (.slice none (([] : List Int).length) 0)] := hb_10
 refine lN (wS (wR ?_))
 refine lV (.pointer ((some (⟨g_1, 0, none⟩ : Addr)).map (·.add 0))) (rF (sz := 1) (off := 0) Tryz.underlying38 rfl Tryz.sizeOf4 (by decide) rfl rfl ⟨_, _, rfl⟩) ?_
 replace hb_5 := hb_5.gr hg_9
 refine lV (.bool p0_a.1) (r_ld Tryz.isAgg4 rfl ((hb_5.atN).nth (q := 0) (v := (.bool p0_a.1)) rfl)) ?_
 refine lV (.pointer ((some (⟨g_1, 0, none⟩ : Addr)).map (·.add 1))) (rF (sz := 1) (off := 1) Tryz.underlying38 rfl Tryz.sizeOf36 (by decide) rfl rfl ⟨_, _, rfl⟩) ?_
 refine lV (.slice a0_0 p0_a.2.length cap0_0) (r_ld Tryz.isAgg36 rfl ((hb_5.atN).nth (q := 1) (v := (.slice a0_0 p0_a.2.length cap0_0)) rfl)) ?_
 obtain ⟨r_11, hr_12, hm⟩ := bS hm
 replace h0_0 := ((h0_0.keep (Stay.start col w0)).gr hg_4).gr hg_9
 refine lc rfl rfl (r_call2 Tryz.call157 rfl rfl) (c_r02_Make N 3 col_8 _ p0_a.1 a0_0 cap0_0 p0_a.2 h0_0 r_11 hr_12) ?_
 rintro _ w_16 ⟨col_18, ra_13, rc_14, rfl, hg_17, rh_15⟩
 refine ⟨_, rfl, ?_⟩
 replace hb_10 := hb_10.gr hg_17
 refine l_bstore (v := (.agg #[(.bool r_11.1), (.slice ra_13 r_11.2.length rc_14)])) hb_10 Tryz.sizeOf38 rfl rfl (by intro u hu; simp only [Value.cells, List.mem_cons, List.not_mem_nil, or_false] at hu; rcases hu with rfl | rfl <;> rfl) rfl rfl ?_
 intro w_19 hk_20 hs_21 hb_22
 clear hb_10
 replace hb_22 : Box 38 2 col_18 w_19 g_6 #[(.bool r_11.1), (.slice ra_13 r_11.2.length rc_14)] := hb_22
 refine lN ?_
 refine wret ?_
 cases hm
 replace hst := (((hst.grow hg_4).grow hg_9).grow hg_17).kp hk_20 hs_21
 replace rh_15 := rh_15.kp hk_20
 exact ⟨rfl, _, res_a rfl rfl Tryz.isAgg38 Tryz.sizeOf38 rfl rfl hb_22.atN, colF w0.heap.size col col_18 (fun n => bif Nat.beq n 3 then c1 else 0), ra_13, rc_14, rfl, hst.fin (fun n => bif Nat.beq n 3 then c1 else 0), hst.finOwn (g := (fun n => bif Nat.beq n 3 then c1 else 0)) rfl rh_15 (by decide) (by decide) rfl⟩
def m_r02_Sign (N : Nat) (p0_a : (Bool × (List Int))) : Option Int :=
  (m_r02_Norm N (p0_a.1, p0_a.2)).bind fun r_6 => if (decide ((r_6.2.length : Int) = 0)) = true then none else (if r_6.1 = true then none else (some 1))
theorem c_r02_Sign (N : Nat) (col : Col) (w0 : World) (a0_0 : Option Addr) (cap0_0 : Nat) (p0_a : (Bool × (List Int))) (h0_0 : Sl (Rep.int .u32) col w0 a0_0 cap0_0 p0_a.2) (r : Int) (hm : m_r02_Sign N p0_a = some r) :
    Calls Tryz.prog 155 #[(.agg #[(.bool p0_a.1), (.slice a0_0 p0_a.2.length cap0_0)])] w0 (fun e w' => e = .returned ((.int .i64 r)) ∧ Below w0.heap.size w0 w') := by
 refine calls_of1 2 (m := 12) (args := [(.agg #[(.bool p0_a.1), (.slice a0_0 p0_a.2.length cap0_0)])]) Tryz.func155 rfl rfl rfl rfl rfl ?_
 rw [m_r02_Sign.eq_1] at hm
 have hst := St.start col w0
 refine wS (wR ?_)
 refine l_box (col := (col0 col)) (v := (.agg #[(.bool p0_a.1), (.slice a0_0 p0_a.2.length cap0_0)])) 1 rfl rfl ?_
 intro g_1 w_2 col_3 hg_4 hb_5
 replace hb_5 : Box 38 1 col_3 w_2 g_1 #[(.bool p0_a.1), (.slice a0_0 p0_a.2.length cap0_0)] := hb_5
 refine lA (.int .i64 0) ?_
 refine lN (wS (wR ?_))
 refine lV (.agg #[(.bool p0_a.1), (.slice a0_0 p0_a.2.length cap0_0)]) (r_ldN Tryz.isAgg38 Tryz.sizeOf38 rfl rfl hb_5.atN) ?_
 obtain ⟨r_6, hr_7, hm⟩ := bS hm
 replace h0_0 := (h0_0.keep (Stay.start col w0)).gr hg_4
 refine lc rfl rfl (r_call1 Tryz.call177 rfl) (c_r02_Norm N 2 col_3 _ a0_0 cap0_0 (p0_a.1, p0_a.2) h0_0 r_6 hr_7) ?_
 rintro _ w_11 ⟨col_13, ra_8, rc_9, rfl, hg_12, rh_10⟩
 refine ⟨_, rfl, ?_⟩
 refine l_alloc (col := col_13) (v := (.agg #[(.bool false), (.slice none (([] : List Int).length) 0)])) 3 rfl Tryz.zeroValue38 ?_
 intro g_14 w_15 col_16 hg_17 hb_18
 replace hb_18 : Box 38 3 col_16 w_15 g_14 #[(.bool false), (.slice none (([] : List Int).length) 0)] := hb_18
 refine l_bstore (v := (.agg #[(.bool r_6.1), (.slice ra_8 r_6.2.length rc_9)])) hb_18 Tryz.sizeOf38 rfl rfl (by intro u hu; simp only [Value.cells, List.mem_cons, List.not_mem_nil, or_false] at hu; rcases hu with rfl | rfl <;> rfl) rfl rfl ?_
 intro w_19 hk_20 hs_21 hb_22
 clear hb_18
 replace hb_22 : Box 38 3 col_16 w_19 g_14 #[(.bool r_6.1), (.slice ra_8 r_6.2.length rc_9)] := hb_22
 refine lN (wS (wS (wR ?_)))
 refine lV (.pointer ((some (⟨g_14, 0, none⟩ : Addr)).map (·.add 1))) (rF (sz := 1) (off := 1) Tryz.underlying38 rfl Tryz.sizeOf36 (by decide) rfl rfl ⟨_, _, rfl⟩) ?_
 refine lV (.slice ra_8 r_6.2.length rc_9) (r_ld Tryz.isAgg36 rfl ((hb_22.atN).nth (q := 1) (v := (.slice ra_8 r_6.2.length rc_9)) rfl)) ?_
 refine lV (.int .i64 (r_6.2.length : Int)) (r_len Tryz.underlying36 rfl) ?_
 refine lV (.bool (decide ((r_6.2.length : Int) = 0))) (r_eql (r_6.2.length : Int) 0 rfl rfl) ?_
 refine lN ?_
 replace hst := (((hst.grow hg_4).grow hg_12).grow hg_17).kp hk_20 hs_21
 refine wcond (decide ((r_6.2.length : Int) = 0)) rfl (fun hb => ?_) (fun hb => ?_)
 ·rw [if_pos hb] at hm
  clear hb
  cases hm
 rw [if_neg (by rw [hb]; decide)] at hm
 clear hb
 refine wK (wS (wS (wR ?_)))
 refine lV (.pointer ((some (⟨g_14, 0, none⟩ : Addr)).map (·.add 0))) (rF (sz := 1) (off := 0) Tryz.underlying38 rfl Tryz.sizeOf4 (by decide) rfl rfl ⟨_, _, rfl⟩) ?_
 refine lV (.bool r_6.1) (r_ld Tryz.isAgg4 rfl ((hb_22.atN).nth (q := 0) (v := (.bool r_6.1)) rfl)) ?_
 refine lN ?_
 refine wcond (r_6.1) rfl (fun hb => ?_) (fun hb => ?_)
 ·rw [if_pos hb] at hm
  clear hb
  cases hm
 rw [if_neg (by rw [hb]; decide)] at hm
 clear hb
 refine wK (wS (wR ?_))
 refine lA (.int .i64 1) ?_
 refine lN ?_
 refine wret ?_
 cases hm
 exact ⟨rfl, rfl, hst.below⟩
def m_r01_even_J1 (v_9 : Bool) : Option Bool :=
  some v_9
def m_r01_even (p0_a : (List Int)) : Option Bool :=
  if (decide ((p0_a.length : Int) = 0)) = true then (m_r01_even_J1 true) else ((at? p0_a 0).bind fun e_11 => m_r01_even_J1 (decide ((Int.tmod e_11 2) = 0)))
theorem c_r01_even (col : Col) (w0 : World) (a0 : Option Addr) (cap0 : Nat) (p0_a : (List Int)) (h0 : Sl (Rep.int .u32) col w0 a0 cap0 p0_a) (r : Bool) (hm : m_r01_even p0_a = some r) :
    Calls Tryz.prog 190 #[(.slice a0 p0_a.length cap0)] w0 (fun e w' => e = .returned ((.bool r)) ∧ Below w0.heap.size w0 w') := by
 refine calls_of1 2 (m := 13) (args := [(.slice a0 p0_a.length cap0)]) Tryz.func190 rfl rfl rfl rfl rfl ?_
 rw [m_r01_even.eq_1] at hm
 have hst := St.start col w0
 refine wS (wR ?_)
 refine lA (.bool false) ?_
 refine lN (wS ?_)
 replace h0 := h0.keep (Stay.start col w0)
 refine Wp.cut (fun f w_7 => ∃ (col_8 : Col) (v_9 : Bool), m_r01_even_J1 v_9 = some r ∧ St w0 (col0 col) col_8 w_7 ∧ f 2 = (.bool v_9) ∧ f 1000000 = (enc [])) ?_ ?_
 ·intro f w_7 hJ
  obtain ⟨col_8, v_9, hm, hst, hs2, hs1000000⟩ := hJ
  rw [m_r01_even_J1.eq_1] at hm
  refine .lD 2 hs2 ?_
  refine .lD 1000000 hs1000000 ?_
  clear hs2 hs1000000
  refine wret ?_
  cases hm
  exact ⟨rfl, rfl, hst.below⟩
 refine wR ?_
 refine lM (.slice a0 p0_a.length cap0) ?_
 refine lV (.int .i64 (p0_a.length : Int)) (r_len Tryz.underlying36 rfl) ?_
 refine lV (.bool (decide ((p0_a.length : Int) = 0))) (r_eql (p0_a.length : Int) 0 rfl rfl) ?_
 refine lM (.bool (decide ((p0_a.length : Int) = 0))) ?_
 by_cases hg_10 : (decide ((p0_a.length : Int) = 0)) = true
 ·rw [if_pos hg_10] at hm
  refine lp (b := decide ((p0_a.length : Int) = 0)) 6 rfl rfl rfl rfl (by rw [hg_10]; rfl) ?_
  refine lp (b := decide ((p0_a.length : Int) = 0)) 6 rfl rfl rfl rfl (by rw [hg_10]; rfl) ?_
  refine lp (b := decide ((p0_a.length : Int) = 0)) 6 rfl rfl rfl rfl (by rw [hg_10]; rfl) ?_
  refine lp (b := decide ((p0_a.length : Int) = 0)) 6 rfl rfl rfl rfl (by rw [hg_10]; rfl) ?_
  refine lp (b := decide ((p0_a.length : Int) = 0)) 6 rfl rfl rfl rfl (by rw [hg_10]; rfl) ?_
  refine lV (.bool true) (r_pickT (congrArg Value.bool hg_10) rfl) ?_
  refine lA (.bool true) ?_
  refine lN ?_
  exact ⟨(col0 col), true, hm, hst, rfl, rfl⟩
 rw [if_neg hg_10] at hm
 replace hg_10 := Bool.eq_false_iff.2 hg_10
 refine lg (b := decide ((p0_a.length : Int) = 0)) 6 rfl rfl rfl (by rw [hg_10]; rfl) ?_
 refine lM (.slice a0 p0_a.length cap0) ?_
 refine lg (b := decide ((p0_a.length : Int) = 0)) 6 rfl rfl rfl (by rw [hg_10]; rfl) ?_
 obtain ⟨e_11, hj_12, hm⟩ := bS hm
 refine lV (sptr a0 (Int.toNat 0 * 1)) (r_idx Tryz.underlying36 Tryz.sizeOf114 rfl rfl (at?_some hj_12).1 (at?_some hj_12).2.1 (h0.addr hj_12)) ?_
 refine lg (b := decide ((p0_a.length : Int) = 0)) 6 rfl rfl rfl (by rw [hg_10]; rfl) ?_
 refine lV (.int .u32 e_11) (r_ld Tryz.isAgg114 rfl (h0.atInt hj_12)) ?_
 refine lg (b := decide ((p0_a.length : Int) = 0)) 6 rfl rfl rfl (by rw [hg_10]; rfl) ?_
 refine lV (.int .u32 (Int.tmod e_11 2)) (r_rem e_11 2 rfl rfl (by decide)) ?_
 refine lg (b := decide ((p0_a.length : Int) = 0)) 6 rfl rfl rfl (by rw [hg_10]; rfl) ?_
 refine lV (.bool (decide ((Int.tmod e_11 2) = 0))) (r_eql (Int.tmod e_11 2) 0 rfl rfl) ?_
 refine lV (.bool (decide ((Int.tmod e_11 2) = 0))) (r_pickF (congrArg Value.bool hg_10) rfl) ?_
 refine lA (.bool (decide ((Int.tmod e_11 2) = 0))) ?_
 refine lN ?_
 exact ⟨(col0 col), (decide ((Int.tmod e_11 2) = 0)), hm, hst, rfl, rfl⟩
def m_r01_half_L1 (N : Nat) (p0_a : (List Int)) : Nat → (List Int) → Int → Int → Option (List Int)
  | 0, _, _, _ => none
  | n_7 + 1, out_10, rest_14, i_15 => if (decide (0 ≤ i_15)) = true then ((at? p0_a i_15).bind fun e_16 => (at? out_10 i_15).bind fun e_18 => (some (out_10.set (Int.toNat i_15) (IntKind.u32.wrap (IntKind.u64.wrap (Int.tdiv (IntKind.u64.wrap ((IntKind.u64.wrap (rest_14 * 4294967296)) + (IntKind.u64.wrap e_16))) 2))))).bind fun xs_25 => (m_r01_half_L1 N p0_a n_7) xs_25 (Int.tmod (IntKind.u64.wrap ((IntKind.u64.wrap (rest_14 * 4294967296)) + (IntKind.u64.wrap e_16))) 2) (IntKind.i64.wrap (i_15 - 1))) else ((m_r01_Norm N out_10).bind fun r_26 => some r_26)
termination_by structural x => x
def m_r01_half (N : Nat) (p0_a : (List Int)) : Option (List Int) :=
  chk (p0_a.length * 4 ≤ 281474976710656 ∧ p0_a.length ≤ maxLen) (m_r01_half_L1 N p0_a N (List.replicate p0_a.length (0 : Int)) 0 (IntKind.i64.wrap ((p0_a.length : Int) - 1)))
theorem c_r01_half (N : Nat) (c1 : Nat) (col : Col) (w0 : World) (a0 : Option Addr) (cap0 : Nat) (p0_a : (List Int)) (h0 : Sl (Rep.int .u32) col w0 a0 cap0 p0_a) (r : (List Int)) (hm : m_r01_half N p0_a = some r) :
    Calls Tryz.prog 191 #[(.slice a0 p0_a.length cap0)] w0 (fun e w' => ∃ (col' : Col) (ra1 : Option Addr) (rc2 : Nat), e = .returned ((.slice ra1 r.length rc2)) ∧ Grow col w0 col' w' ∧ Own (Rep.int .u32) 114 c1 col' w' ra1 rc2 r) := by
 refine calls_of1 2 (m := 34) (args := [(.slice a0 p0_a.length cap0)]) Tryz.func191 rfl rfl rfl rfl rfl ?_
 rw [m_r01_half.eq_1] at hm
 have hst := St.start col w0
 refine wS (wR ?_)
 refine lA (.slice none (([] : List Int).length) 0) ?_
 refine lN (wS (wR ?_))
 refine lM (.slice a0 p0_a.length cap0) ?_
 refine lV (.int .i64 (p0_a.length : Int)) (r_len Tryz.underlying36 rfl) ?_
 obtain ⟨hb_1, hm⟩ := cS hm
 refine l_make (col := (col0 col)) (w := w0) (r := (Rep.int .u32)) (n := p0_a.length) (x0 := 0) 1 rfl Tryz.underlying36 Tryz.t114 rfl rfl rfl rfl rfl rfl rfl hb_1.1 hb_1.2 (rd_int .u32 0) ?_
 intro a_2 w_3 col_4 hg_5 h_6
 refine lA (.slice a_2 ((List.replicate p0_a.length (0 : Int)).length) p0_a.length) ?_
 refine lN (wS (wR ?_))
 refine lA (.int .u64 0) ?_
 refine lN (wS (wS (wR ?_)))
 refine lM (.slice a0 p0_a.length cap0) ?_
 refine lV (.int .i64 (p0_a.length : Int)) (r_len Tryz.underlying36 rfl) ?_
 refine lV (.int .i64 (IntKind.i64.wrap ((p0_a.length : Int) - 1))) (r_sub (p0_a.length : Int) 1 rfl rfl) ?_
 refine lA (.int .i64 (IntKind.i64.wrap ((p0_a.length : Int) - 1))) ?_
 refine lN (wB ?_)
 replace h0 := (h0.keep (Stay.start col w0)).gr hg_5
 replace hst := hst.grow hg_5
 refine wloop (fun n f w_8 => ∃ (col_9 : Col) (a_11 : Option Addr) (cap_12 : Nat) (out_10 : List Int) (rest_14 : Int) (i_15 : Int) (n_7 : Nat), n_7 = n ∧ m_r01_half_L1 N p0_a n_7 out_10 rest_14 i_15 = some r ∧ St w0 (col0 col) col_9 w_8 ∧ Sl (Rep.int .u32) col_9 w_8 a0 cap0 p0_a ∧ Own (Rep.int .u32) 114 1 col_9 w_8 a_11 cap_12 out_10 ∧ f 0 = (.slice a0 p0_a.length cap0) ∧ f 3 = (.slice a_11 out_10.length cap_12) ∧ f 4 = (.int .u64 rest_14) ∧ f 5 = (.int .i64 i_15) ∧ f 1000000 = (enc [])) N ⟨col_4, a_2, p0_a.length, (List.replicate p0_a.length (0 : Int)), 0, (IntKind.i64.wrap ((p0_a.length : Int) - 1)), N, rfl, hm, hst, h0, h_6, rfl, rfl, rfl, rfl, rfl⟩ ?_
 clear hm; intro n f w_8 hI
 obtain ⟨col_9, a_11, cap_12, out_10, rest_14, i_15, n_7, hn, hm, hst, h0, h_13, hs0, hs3, hs4, hs5, hs1000000⟩ := hI
 subst hn
 refine .lD 0 hs0 ?_
 refine .lD 3 hs3 ?_
 refine .lD 4 hs4 ?_
 refine .lD 5 hs5 ?_
 refine .lD 1000000 hs1000000 ?_
 clear hs0 hs3 hs4 hs5 hs1000000
 cases n_7 with
 | zero => rw [m_r01_half_L1.eq_1] at hm; cases hm
 | succ n_7 =>
  rw [m_r01_half_L1.eq_2] at hm
  refine wS (wS (wR ?_))
  refine lM (.int .i64 i_15) ?_
  refine lV (.bool (decide (0 ≤ i_15))) (r_geq i_15 0 rfl rfl) ?_
  refine lN ?_
  refine wcond (decide (0 ≤ i_15)) rfl (fun hb => ?_) (fun hb => ?_)
  ·rw [if_pos hb] at hm
   clear hb
   refine wK (wS (wB (wS (wR ?_))))
   refine lM (.int .u64 rest_14) ?_
   refine lV (.int .u64 (IntKind.u64.wrap (rest_14 * 4294967296))) (r_mul rest_14 4294967296 rfl rfl) ?_
   refine lM (.slice a0 p0_a.length cap0) ?_
   refine lM (.int .i64 i_15) ?_
   obtain ⟨e_16, hj_17, hm⟩ := bS hm
   refine lV (sptr a0 (Int.toNat i_15 * 1)) (r_idx Tryz.underlying36 Tryz.sizeOf114 rfl rfl (at?_some hj_17).1 (at?_some hj_17).2.1 (h0.addr hj_17)) ?_
   refine lV (.int .u32 e_16) (r_ld Tryz.isAgg114 rfl (h0.atInt hj_17)) ?_
   refine lV (.int .u64 (IntKind.u64.wrap e_16)) (r_conv e_16 ⟨_, Tryz.underlying114⟩ Tryz.underlying108 rfl) ?_
   refine lV (.int .u64 (IntKind.u64.wrap ((IntKind.u64.wrap (rest_14 * 4294967296)) + (IntKind.u64.wrap e_16)))) (r_add (IntKind.u64.wrap (rest_14 * 4294967296)) (IntKind.u64.wrap e_16) rfl rfl) ?_
   refine lA (.int .u64 (IntKind.u64.wrap ((IntKind.u64.wrap (rest_14 * 4294967296)) + (IntKind.u64.wrap e_16)))) ?_
   refine lN (wS (wR ?_))
   refine lM (.slice a_11 out_10.length cap_12) ?_
   refine lM (.int .i64 i_15) ?_
   refine lM (.int .u64 (IntKind.u64.wrap ((IntKind.u64.wrap (rest_14 * 4294967296)) + (IntKind.u64.wrap e_16)))) ?_
   refine lV (.int .u64 (IntKind.u64.wrap (Int.tdiv (IntKind.u64.wrap ((IntKind.u64.wrap (rest_14 * 4294967296)) + (IntKind.u64.wrap e_16))) 2))) (r_quo (IntKind.u64.wrap ((IntKind.u64.wrap (rest_14 * 4294967296)) + (IntKind.u64.wrap e_16))) 2 rfl rfl (by decide)) ?_
   refine lV (.int .u32 (IntKind.u32.wrap (IntKind.u64.wrap (Int.tdiv (IntKind.u64.wrap ((IntKind.u64.wrap (rest_14 * 4294967296)) + (IntKind.u64.wrap e_16))) 2)))) (r_conv (IntKind.u64.wrap (Int.tdiv (IntKind.u64.wrap ((IntKind.u64.wrap (rest_14 * 4294967296)) + (IntKind.u64.wrap e_16))) 2)) ⟨_, Tryz.underlying108⟩ Tryz.underlying114 rfl) ?_
   obtain ⟨e_18, hj_19, hm⟩ := bS hm
   refine lV (sptr a_11 (Int.toNat i_15 * 1)) (r_idx Tryz.underlying36 Tryz.sizeOf114 rfl rfl (at?_some hj_19).1 (at?_some hj_19).2.1 (h_13.addr hj_19)) ?_
   obtain ⟨xs_25, hz_24, hm⟩ := bS hm
   have hz_24 : xs_25 = out_10.set (Int.toNat i_15) (IntKind.u32.wrap (IntKind.u64.wrap (Int.tdiv (IntKind.u64.wrap ((IntKind.u64.wrap (rest_14 * 4294967296)) + (IntKind.u64.wrap e_16))) 2))) := (Option.some.inj hz_24).symm
   refine l_store (x1 := IntKind.u32.wrap (IntKind.u64.wrap (Int.tdiv (IntKind.u64.wrap ((IntKind.u64.wrap (rest_14 * 4294967296)) + (IntKind.u64.wrap e_16))) 2))) (v := (.int .u32 (IntKind.u32.wrap (IntKind.u64.wrap (Int.tdiv (IntKind.u64.wrap ((IntKind.u64.wrap (rest_14 * 4294967296)) + (IntKind.u64.wrap e_16))) 2))))) h_13 hj_19 rfl Tryz.sizeOf114 (rd_int .u32 (IntKind.u32.wrap (IntKind.u64.wrap (Int.tdiv (IntKind.u64.wrap ((IntKind.u64.wrap (rest_14 * 4294967296)) + (IntKind.u64.wrap e_16))) 2)))) rfl rfl (by decide) ?_
   intro w_20 hk_21 hs_22 h_23
   rw [← hz_24] at h_23
   refine .ld (d := 3) (v := (.slice a_11 xs_25.length cap_12)) (congrArg (fun n => Value.slice a_11 n cap_12) (show out_10.length = xs_25.length by rw [hz_24, List.length_set])) ?_
   clear h_13
   refine lN (wR ?_)
   refine lM (.int .u64 (IntKind.u64.wrap ((IntKind.u64.wrap (rest_14 * 4294967296)) + (IntKind.u64.wrap e_16)))) ?_
   refine lV (.int .u64 (Int.tmod (IntKind.u64.wrap ((IntKind.u64.wrap (rest_14 * 4294967296)) + (IntKind.u64.wrap e_16))) 2)) (r_rem (IntKind.u64.wrap ((IntKind.u64.wrap (rest_14 * 4294967296)) + (IntKind.u64.wrap e_16))) 2 rfl rfl (by decide)) ?_
   refine lA (.int .u64 (Int.tmod (IntKind.u64.wrap ((IntKind.u64.wrap (rest_14 * 4294967296)) + (IntKind.u64.wrap e_16))) 2)) ?_
   refine lN (wR ?_)
   refine lM (.int .i64 i_15) ?_
   refine lV (.int .i64 (IntKind.i64.wrap (i_15 - 1))) (r_sub i_15 1 rfl rfl) ?_
   refine lA (.int .i64 (IntKind.i64.wrap (i_15 - 1))) ?_
   refine lN ?_
   replace h0 := h0.kp hk_21
   replace hst := hst.kp hk_21 hs_22
   exact ⟨n_7, by omega, ⟨col_9, a_11, cap_12, xs_25, (Int.tmod (IntKind.u64.wrap ((IntKind.u64.wrap (rest_14 * 4294967296)) + (IntKind.u64.wrap e_16))) 2), (IntKind.i64.wrap (i_15 - 1)), n_7, rfl, hm, hst, h0, h_23, rfl, rfl, rfl, rfl, rfl⟩⟩
  rw [if_neg (by rw [hb]; decide)] at hm
  clear hb
  refine wexit (inB_hit ?_)
  refine wS (wR ?_)
  refine lM (.slice a_11 out_10.length cap_12) ?_
  obtain ⟨r_26, hr_27, hm⟩ := bS hm
  refine lc rfl rfl (r_call1 Tryz.call159 rfl) (c_r01_Norm N 2 (frC 1 col_9) _ a_11 cap_12 out_10 (h_13.toSlF (Froz.int .u32)) r_26 hr_27) ?_
  rintro _ w_31 ⟨col_33, ra_28, rc_29, rfl, hg_32, rh_30⟩
  refine ⟨_, rfl, ?_⟩
  replace rh_30 := rh_30.thaw (flat_int .u32) hg_32 ((Fz.refl (col := col_9)).froz 1) (by decide)
  replace hg_32 := hg_32.thawR (col := col_9)
  generalize colR w_8.heap.size col_9 col_33 = col_34 at *
  refine lA (.slice ra_28 r_26.length rc_29) ?_
  refine lN ?_
  refine wret ?_
  cases hm
  replace hst := hst.grow hg_32
  exact ⟨rfl, colF w0.heap.size col col_34 (fun n => bif Nat.beq n 2 then c1 else 0), ra_28, rc_29, rfl, hst.fin (fun n => bif Nat.beq n 2 then c1 else 0), hst.finOwn (g := (fun n => bif Nat.beq n 2 then c1 else 0)) rfl rh_30 (by decide) (by decide) rfl⟩
def m_r01_limb (p0_a : (List Int)) (p1_i : Int) : Option Int :=
  if (decide (p1_i < (p0_a.length : Int))) = true then ((at? p0_a p1_i).bind fun e_1 => some (IntKind.u64.wrap e_1)) else (some 0)
theorem c_r01_limb (col : Col) (w0 : World) (a0 : Option Addr) (cap0 : Nat) (p0_a : (List Int)) (p1_i : Int) (h0 : Sl (Rep.int .u32) col w0 a0 cap0 p0_a) (r : Int) (hm : m_r01_limb p0_a p1_i = some r) :
    Calls Tryz.prog 182 #[(.slice a0 p0_a.length cap0), (.int .i64 p1_i)] w0 (fun e w' => e = .returned ((.int .u64 r)) ∧ Below w0.heap.size w0 w') := by
 refine calls_of1 4 (m := 14) (args := [(.slice a0 p0_a.length cap0), (.int .i64 p1_i)]) Tryz.func182 rfl rfl rfl rfl rfl ?_
 rw [m_r01_limb.eq_1] at hm
 have hst := St.start col w0
 refine wS (wR ?_)
 refine lA (.int .u64 0) ?_
 refine lN (wS (wS (wR ?_)))
 refine lM (.int .i64 p1_i) ?_
 refine lM (.slice a0 p0_a.length cap0) ?_
 refine lV (.int .i64 (p0_a.length : Int)) (r_len Tryz.underlying36 rfl) ?_
 refine lV (.bool (decide (p1_i < (p0_a.length : Int)))) (r_lss p1_i (p0_a.length : Int) rfl rfl) ?_
 refine lN ?_
 replace h0 := h0.keep (Stay.start col w0)
 refine wcond (decide (p1_i < (p0_a.length : Int))) rfl (fun hb => ?_) (fun hb => ?_)
 ·rw [if_pos hb] at hm
  clear hb
  refine wS (wR ?_)
  refine lM (.slice a0 p0_a.length cap0) ?_
  refine lM (.int .i64 p1_i) ?_
  obtain ⟨e_1, hj_2, hm⟩ := bS hm
  refine lV (sptr a0 (Int.toNat p1_i * 1)) (r_idx Tryz.underlying36 Tryz.sizeOf114 rfl rfl (at?_some hj_2).1 (at?_some hj_2).2.1 (h0.addr hj_2)) ?_
  refine lV (.int .u32 e_1) (r_ld Tryz.isAgg114 rfl (h0.atInt hj_2)) ?_
  refine lV (.int .u64 (IntKind.u64.wrap e_1)) (r_conv e_1 ⟨_, Tryz.underlying114⟩ Tryz.underlying108 rfl) ?_
  refine lA (.int .u64 (IntKind.u64.wrap e_1)) ?_
  refine lN ?_
  refine wret ?_
  cases hm
  exact ⟨rfl, rfl, hst.below⟩
 rw [if_neg (by rw [hb]; decide)] at hm
 clear hb
 refine wK (wS (wR ?_))
 refine lA (.int .u64 0) ?_
 refine lN ?_
 refine wret ?_
 cases hm
 exact ⟨rfl, rfl, hst.below⟩
def m_r01_Cmp_L1 (N : Nat) (p0_a : (List Int)) (p1_b : (List Int)) : Nat → Int → Option Int
  | 0, _ => none
  | n_4 + 1, i_7 => if (decide (0 ≤ i_7)) = true then ((m_r01_limb p0_a i_7).bind fun r_8 => (m_r01_limb p1_b i_7).bind fun r_12 => if (decide (r_8 < r_12)) = true then (some (-1)) else (if (decide (r_12 < r_8)) = true then (some 1) else ((m_r01_Cmp_L1 N p0_a p1_b n_4) (IntKind.i64.wrap (i_7 - 1))))) else (some 0)
termination_by structural x => x
def m_r01_Cmp_J1 (N : Nat) (p0_a : (List Int)) (p1_b : (List Int)) (n_3 : Int) : Option Int :=
  m_r01_Cmp_L1 N p0_a p1_b N (IntKind.i64.wrap (n_3 - 1))
def m_r01_Cmp (N : Nat) (p0_a : (List Int)) (p1_b : (List Int)) : Option Int :=
  if (decide ((p0_a.length : Int) < (p1_b.length : Int))) = true then (m_r01_Cmp_J1 N p0_a p1_b (p1_b.length : Int)) else (m_r01_Cmp_J1 N p0_a p1_b (p0_a.length : Int))
theorem c_r01_Cmp (N : Nat) (col : Col) (w0 : World) (a0 : Option Addr) (cap0 : Nat) (p0_a : (List Int)) (a1 : Option Addr) (cap1 : Nat) (p1_b : (List Int)) (h0 : Sl (Rep.int .u32) col w0 a0 cap0 p0_a) (h1 : Sl (Rep.int .u32) col w0 a1 cap1 p1_b) (r : Int) (hm : m_r01_Cmp N p0_a p1_b = some r) :
    Calls Tryz.prog 192 #[(.slice a0 p0_a.length cap0), (.slice a1 p1_b.length cap1)] w0 (fun e w' => e = .returned ((.int .i64 r)) ∧ Below w0.heap.size w0 w') := by
 refine calls_of1 4 (m := 35) (args := [(.slice a0 p0_a.length cap0), (.slice a1 p1_b.length cap1)]) Tryz.func192 rfl rfl rfl rfl rfl ?_
 rw [m_r01_Cmp.eq_1] at hm
 have hst := St.start col w0
 refine wS (wR ?_)
 refine lA (.int .i64 0) ?_
 refine lN (wS (wR ?_))
 refine lM (.slice a0 p0_a.length cap0) ?_
 refine lV (.int .i64 (p0_a.length : Int)) (r_len Tryz.underlying36 rfl) ?_
 refine lA (.int .i64 (p0_a.length : Int)) ?_
 refine lN (wS ?_)
 replace h0 := h0.keep (Stay.start col w0)
 replace h1 := h1.keep (Stay.start col w0)
 refine Wp.cut (fun f w_1 => ∃ (col_2 : Col) (n_3 : Int), m_r01_Cmp_J1 N p0_a p1_b n_3 = some r ∧ St w0 (col0 col) col_2 w_1 ∧ Sl (Rep.int .u32) col_2 w_1 a0 cap0 p0_a ∧ Sl (Rep.int .u32) col_2 w_1 a1 cap1 p1_b ∧ f 0 = (.slice a0 p0_a.length cap0) ∧ f 1 = (.slice a1 p1_b.length cap1) ∧ f 5 = (.int .i64 n_3) ∧ f 1000000 = (enc [])) ?_ ?_
 ·intro f w_1 hJ
  obtain ⟨col_2, n_3, hm, hst, h0, h1, hs0, hs1, hs5, hs1000000⟩ := hJ
  rw [m_r01_Cmp_J1.eq_1] at hm
  refine .lD 0 hs0 ?_
  refine .lD 1 hs1 ?_
  refine .lD 5 hs5 ?_
  refine .lD 1000000 hs1000000 ?_
  clear hs0 hs1 hs5 hs1000000
  refine wS (wS (wR ?_))
  refine lM (.int .i64 n_3) ?_
  refine lV (.int .i64 (IntKind.i64.wrap (n_3 - 1))) (r_sub n_3 1 rfl rfl) ?_
  refine lA (.int .i64 (IntKind.i64.wrap (n_3 - 1))) ?_
  refine lN (wB ?_)
  refine wloop (fun n f w_5 => ∃ (col_6 : Col) (i_7 : Int) (n_4 : Nat), n_4 = n ∧ m_r01_Cmp_L1 N p0_a p1_b n_4 i_7 = some r ∧ St w0 (col0 col) col_6 w_5 ∧ Sl (Rep.int .u32) col_6 w_5 a0 cap0 p0_a ∧ Sl (Rep.int .u32) col_6 w_5 a1 cap1 p1_b ∧ f 0 = (.slice a0 p0_a.length cap0) ∧ f 1 = (.slice a1 p1_b.length cap1) ∧ f 6 = (.int .i64 i_7) ∧ f 1000000 = (enc [])) N ⟨col_2, (IntKind.i64.wrap (n_3 - 1)), N, rfl, hm, hst, h0, h1, rfl, rfl, rfl, rfl⟩ ?_
  clear hm; intro n f w_5 hI
  obtain ⟨col_6, i_7, n_4, hn, hm, hst, h0, h1, hs0, hs1, hs6, hs1000000⟩ := hI
  subst hn
  refine .lD 0 hs0 ?_
  refine .lD 1 hs1 ?_
  refine .lD 6 hs6 ?_
  refine .lD 1000000 hs1000000 ?_
  clear hs0 hs1 hs6 hs1000000
  cases n_4 with
  | zero => rw [m_r01_Cmp_L1.eq_1] at hm; cases hm
  | succ n_4 =>
   rw [m_r01_Cmp_L1.eq_2] at hm
   refine wS (wS (wR ?_))
   refine lM (.int .i64 i_7) ?_
   refine lV (.bool (decide (0 ≤ i_7))) (r_geq i_7 0 rfl rfl) ?_
   refine lN ?_
   refine wcond (decide (0 ≤ i_7)) rfl (fun hb => ?_) (fun hb => ?_)
   ·rw [if_pos hb] at hm
    clear hb
    refine wK (wS (wB (wS (wR ?_))))
    refine lM (.slice a0 p0_a.length cap0) ?_
    refine lM (.int .i64 i_7) ?_
    obtain ⟨r_8, hr_9, hm⟩ := bS hm
    refine lc rfl rfl (r_call2 Tryz.call182 rfl rfl) (c_r01_limb col_6 _ a0 cap0 p0_a i_7 h0 r_8 hr_9) ?_
    rintro _ w_10 ⟨rfl, hg_11⟩
    refine ⟨_, rfl, ?_⟩
    replace hg_11 : Grow col_6 w_5 col_6 w_10 := .of_below hg_11
    refine lA (.int .u64 r_8) ?_
    refine lN (wS (wR ?_))
    refine lM (.slice a1 p1_b.length cap1) ?_
    refine lM (.int .i64 i_7) ?_
    obtain ⟨r_12, hr_13, hm⟩ := bS hm
    replace h1 := h1.gr hg_11
    refine lc rfl rfl (r_call2 Tryz.call182 rfl rfl) (c_r01_limb col_6 _ a1 cap1 p1_b i_7 h1 r_12 hr_13) ?_
    rintro _ w_14 ⟨rfl, hg_15⟩
    refine ⟨_, rfl, ?_⟩
    replace hg_15 : Grow col_6 w_10 col_6 w_14 := .of_below hg_15
    refine lA (.int .u64 r_12) ?_
    refine lN (wS (wS (wR ?_)))
    refine lM (.int .u64 r_8) ?_
    refine lM (.int .u64 r_12) ?_
    refine lV (.bool (decide (r_8 < r_12))) (r_lss r_8 r_12 rfl rfl) ?_
    refine lN ?_
    replace h0 := (h0.gr hg_11).gr hg_15
    replace hst := (hst.grow hg_11).grow hg_15
    replace h1 := h1.gr hg_15
    refine wcond (decide (r_8 < r_12)) rfl (fun hb => ?_) (fun hb => ?_)
    ·rw [if_pos hb] at hm
     clear hb
     refine wS (wR ?_)
     refine lA (.int .i64 (-1)) ?_
     refine lN ?_
     refine wret ?_
     cases hm
     exact ⟨rfl, rfl, hst.below⟩
    rw [if_neg (by rw [hb]; decide)] at hm
    clear hb
    refine wK (wS (wR ?_))
    refine lM (.int .u64 r_8) ?_
    refine lM (.int .u64 r_12) ?_
    refine lV (.bool (decide (r_12 < r_8))) (r_gtr r_8 r_12 rfl rfl) ?_
    refine lN ?_
    refine wcond (decide (r_12 < r_8)) rfl (fun hb => ?_) (fun hb => ?_)
    ·rw [if_pos hb] at hm
     clear hb
     refine wS (wR ?_)
     refine lA (.int .i64 1) ?_
     refine lN ?_
     refine wret ?_
     cases hm
     exact ⟨rfl, rfl, hst.below⟩
    rw [if_neg (by rw [hb]; decide)] at hm
    clear hb
    refine wK (wR ?_)
    refine lM (.int .i64 i_7) ?_
    refine lV (.int .i64 (IntKind.i64.wrap (i_7 - 1))) (r_sub i_7 1 rfl rfl) ?_
    refine lA (.int .i64 (IntKind.i64.wrap (i_7 - 1))) ?_
    refine lN ?_
    exact ⟨n_4, by omega, ⟨col_6, (IntKind.i64.wrap (i_7 - 1)), n_4, rfl, hm, hst, h0, h1, rfl, rfl, rfl, rfl⟩⟩
   rw [if_neg (by rw [hb]; decide)] at hm
   clear hb
   refine wexit (inB_hit ?_)
   refine wS (wR ?_)
   refine lA (.int .i64 0) ?_
   refine lN ?_
   refine wret ?_
   cases hm
   exact ⟨rfl, rfl, hst.below⟩
 refine wS (wR ?_)
 refine lM (.slice a1 p1_b.length cap1) ?_
 refine lV (.int .i64 (p1_b.length : Int)) (r_len Tryz.underlying36 rfl) ?_
 refine lM (.int .i64 (p0_a.length : Int)) ?_
 refine lV (.bool (decide ((p0_a.length : Int) < (p1_b.length : Int)))) (r_gtr (p1_b.length : Int) (p0_a.length : Int) rfl rfl) ?_
 refine lN ?_
 refine wcond (decide ((p0_a.length : Int) < (p1_b.length : Int))) rfl (fun hb => ?_) (fun hb => ?_)
 ·rw [if_pos hb] at hm
  clear hb
  refine wR ?_
  refine lM (.slice a1 p1_b.length cap1) ?_
  refine lV (.int .i64 (p1_b.length : Int)) (r_len Tryz.underlying36 rfl) ?_
  refine lA (.int .i64 (p1_b.length : Int)) ?_
  refine lN ?_
  exact ⟨(col0 col), (p1_b.length : Int), hm, hst, h0, h1, rfl, rfl, rfl, rfl⟩
 rw [if_neg (by rw [hb]; decide)] at hm
 clear hb
 refine wK ?_
 exact ⟨(col0 col), (p0_a.length : Int), hm, hst, h0, h1, rfl, rfl, rfl, rfl⟩
theorem el114_189 : ElemOk Tryz.prog 114 1 4 := ⟨Tryz.t114, _, rfl, rfl, rfl, rfl, rfl⟩
def m_r01_Sub_J1 (i_13 : Int) (kk_L1 : ((List Int) → Int → Int → Option ((List Int) × Bool))) (out_16 : List Int) (borrow_20 : Int) : Option ((List Int) × Bool) :=
  kk_L1 out_16 borrow_20 (IntKind.i64.wrap (i_13 + 1))
def m_r01_Sub_J2 (out_8 : List Int) (borrow_12 : Int) (i_13 : Int) (kk_L1 : ((List Int) → Int → Int → Option ((List Int) × Bool))) (r_25 : Int) (borrow_31 : Int) (x_32 : Int) : Option ((List Int) × Bool) :=
  chk ((out_8.length + [IntKind.u32.wrap (IntKind.u64.wrap (x_32 - (IntKind.u64.wrap (r_25 + borrow_12))))].length) * 4 ≤ 140737488355328 ∧ out_8.length + [IntKind.u32.wrap (IntKind.u64.wrap (x_32 - (IntKind.u64.wrap (r_25 + borrow_12))))].length ≤ maxLen) (m_r01_Sub_J1 i_13 kk_L1 (out_8 ++ [IntKind.u32.wrap (IntKind.u64.wrap (x_32 - (IntKind.u64.wrap (r_25 + borrow_12))))]) borrow_31)
def m_r01_Sub_L1 (N : Nat) (p0_a : (List Int)) (p1_b : (List Int)) : Nat → (List Int) → Int → Int → Option ((List Int) × Bool)
  | 0, _, _, _ => none
  | n_5 + 1, out_8, borrow_12, i_13 => if (decide (i_13 < (p0_a.length : Int))) = true then ((m_r01_limb p0_a i_13).bind fun r_21 => (m_r01_limb p1_b i_13).bind fun r_25 => if (decide (r_21 < (IntKind.u64.wrap (r_25 + borrow_12)))) = true then none else (m_r01_Sub_J2 out_8 borrow_12 i_13 (m_r01_Sub_L1 N p0_a p1_b n_5) r_25 0 r_21)) else ((m_r01_Norm N out_8).bind fun r_45 => some (r_45, true))
termination_by structural x => x
def m_r01_Sub (N : Nat) (p0_a : (List Int)) (p1_b : (List Int)) : Option ((List Int) × Bool) :=
  (m_r01_Cmp N p0_a p1_b).bind fun r_1 => if (decide (r_1 < 0)) = true then none else (m_r01_Sub_L1 N p0_a p1_b N ([] : List Int) 0 0)
theorem c_r01_Sub (N : Nat) (c1 : Nat) (col : Col) (w0 : World) (a0 : Option Addr) (cap0 : Nat) (p0_a : (List Int)) (a1 : Option Addr) (cap1 : Nat) (p1_b : (List Int)) (h0 : Sl (Rep.int .u32) col w0 a0 cap0 p0_a) (h1 : Sl (Rep.int .u32) col w0 a1 cap1 p1_b) (r : ((List Int) × Bool)) (hm : m_r01_Sub N p0_a p1_b = some r) :
    Calls Tryz.prog 189 #[(.slice a0 p0_a.length cap0), (.slice a1 p1_b.length cap1)] w0 (fun e w' => ∃ (col' : Col) (ra1 : Option Addr) (rc2 : Nat), e = .returned (.tuple #[(.slice ra1 r.1.length rc2), (.bool r.2)]) ∧ Grow col w0 col' w' ∧ Own (Rep.int .u32) 114 c1 col' w' ra1 rc2 r.1) := by
 refine calls_of2 4 5 (m := 43) (args := [(.slice a0 p0_a.length cap0), (.slice a1 p1_b.length cap1)]) Tryz.func189 rfl rfl rfl rfl rfl ?_
 rw [m_r01_Sub.eq_1] at hm
 have hst := St.start col w0
 refine wS (wR ?_)
 refine lA (.slice none (([] : List Int).length) 0) ?_
 refine lA (.bool false) ?_
 refine lN (wS (wS (wR ?_)))
 refine lM (.slice a0 p0_a.length cap0) ?_
 refine lM (.slice a1 p1_b.length cap1) ?_
 obtain ⟨r_1, hr_2, hm⟩ := bS hm
 replace h0 := h0.keep (Stay.start col w0)
 replace h1 := h1.keep (Stay.start col w0)
 refine lc rfl rfl (r_call2 Tryz.call192 rfl rfl) (c_r01_Cmp N (col0 col) _ a0 cap0 p0_a a1 cap1 p1_b h0 h1 r_1 hr_2) ?_
 rintro _ w_3 ⟨rfl, hg_4⟩
 refine ⟨_, rfl, ?_⟩
 replace hg_4 : Grow (col0 col) w0 (col0 col) w_3 := .of_below hg_4
 refine lV (.bool (decide (r_1 < 0))) (r_lss r_1 0 rfl rfl) ?_
 refine lN ?_
 replace h0 := h0.gr hg_4
 replace h1 := h1.gr hg_4
 replace hst := hst.grow hg_4
 refine wcond (decide (r_1 < 0)) rfl (fun hb => ?_) (fun hb => ?_)
 ·rw [if_pos hb] at hm
  clear hb
  cases hm
 rw [if_neg (by rw [hb]; decide)] at hm
 clear hb
 refine wK (wS (wR ?_))
 refine lA (.slice none (([] : List Int).length) 0) ?_
 refine lN (wS (wR ?_))
 refine lA (.int .u64 0) ?_
 refine lN (wS (wS (wR ?_)))
 refine lA (.int .i64 0) ?_
 refine lN (wB ?_)
 refine wloop (fun n f w_6 => ∃ (col_7 : Col) (a_9 : Option Addr) (cap_10 : Nat) (out_8 : List Int) (borrow_12 : Int) (i_13 : Int) (n_5 : Nat), n_5 = n ∧ m_r01_Sub_L1 N p0_a p1_b n_5 out_8 borrow_12 i_13 = some r ∧ St w0 (col0 col) col_7 w_6 ∧ Sl (Rep.int .u32) col_7 w_6 a0 cap0 p0_a ∧ Sl (Rep.int .u32) col_7 w_6 a1 cap1 p1_b ∧ Own (Rep.int .u32) 114 1 col_7 w_6 a_9 cap_10 out_8 ∧ f 0 = (.slice a0 p0_a.length cap0) ∧ f 1 = (.slice a1 p1_b.length cap1) ∧ f 6 = (.slice a_9 out_8.length cap_10) ∧ f 7 = (.int .u64 borrow_12) ∧ f 8 = (.int .i64 i_13) ∧ f 1000000 = (enc [])) N ⟨(col0 col), none, 0, ([] : List Int), 0, 0, N, rfl, hm, hst, h0, h1, Own.nil, rfl, rfl, rfl, rfl, rfl, rfl⟩ ?_
 clear hm; intro n f w_6 hI
 obtain ⟨col_7, a_9, cap_10, out_8, borrow_12, i_13, n_5, hn, hm, hst, h0, h1, h_11, hs0, hs1, hs6, hs7, hs8, hs1000000⟩ := hI
 subst hn
 refine .lD 0 hs0 ?_
 refine .lD 1 hs1 ?_
 refine .lD 6 hs6 ?_
 refine .lD 7 hs7 ?_
 refine .lD 8 hs8 ?_
 refine .lD 1000000 hs1000000 ?_
 clear hs0 hs1 hs6 hs7 hs8 hs1000000
 cases n_5 with
 | zero => rw [m_r01_Sub_L1.eq_1] at hm; cases hm
 | succ n_5 =>
  rw [m_r01_Sub_L1.eq_2] at hm
  refine wS (wS (wR ?_))
  refine lM (.int .i64 i_13) ?_
  refine lM (.slice a0 p0_a.length cap0) ?_
  refine lV (.int .i64 (p0_a.length : Int)) (r_len Tryz.underlying36 rfl) ?_
  refine lV (.bool (decide (i_13 < (p0_a.length : Int)))) (r_lss i_13 (p0_a.length : Int) rfl rfl) ?_
  refine lN ?_
  refine wcond (decide (i_13 < (p0_a.length : Int))) rfl (fun hb => ?_) (fun hb => ?_)
  ·rw [if_pos hb] at hm
   clear hb
   refine wK (wS ?_)
   refine Wp.cut (fun f w_14 => ∃ (col_15 : Col) (a_17 : Option Addr) (cap_18 : Nat) (out_16 : List Int) (borrow_20 : Int), m_r01_Sub_J1 i_13 (m_r01_Sub_L1 N p0_a p1_b n_5) out_16 borrow_20 = some r ∧ St w0 (col0 col) col_15 w_14 ∧ Sl (Rep.int .u32) col_15 w_14 a0 cap0 p0_a ∧ Sl (Rep.int .u32) col_15 w_14 a1 cap1 p1_b ∧ Own (Rep.int .u32) 114 1 col_15 w_14 a_17 cap_18 out_16 ∧ f 0 = (.slice a0 p0_a.length cap0) ∧ f 1 = (.slice a1 p1_b.length cap1) ∧ f 6 = (.slice a_17 out_16.length cap_18) ∧ f 7 = (.int .u64 borrow_20) ∧ f 8 = (.int .i64 i_13) ∧ f 1000000 = (enc [])) ?_ ?_
   ·intro f w_14 hJ
    obtain ⟨col_15, a_17, cap_18, out_16, borrow_20, hm, hst, h0, h1, h_19, hs0, hs1, hs6, hs7, hs8, hs1000000⟩ := hJ
    rw [m_r01_Sub_J1.eq_1] at hm
    refine .lD 0 hs0 ?_
    refine .lD 1 hs1 ?_
    refine .lD 6 hs6 ?_
    refine .lD 7 hs7 ?_
    refine .lD 8 hs8 ?_
    refine .lD 1000000 hs1000000 ?_
    clear hs0 hs1 hs6 hs7 hs8 hs1000000
    refine wR ?_
    refine lM (.int .i64 i_13) ?_
    refine lV (.int .i64 (IntKind.i64.wrap (i_13 + 1))) (r_add i_13 1 rfl rfl) ?_
    refine lA (.int .i64 (IntKind.i64.wrap (i_13 + 1))) ?_
    refine lN ?_
    exact ⟨n_5, by omega, ⟨col_15, a_17, cap_18, out_16, borrow_20, (IntKind.i64.wrap (i_13 + 1)), n_5, rfl, hm, hst, h0, h1, h_19, rfl, rfl, rfl, rfl, rfl, rfl⟩⟩
   refine wB (wS (wR ?_))
   refine lM (.slice a0 p0_a.length cap0) ?_
   refine lM (.int .i64 i_13) ?_
   obtain ⟨r_21, hr_22, hm⟩ := bS hm
   refine lc rfl rfl (r_call2 Tryz.call182 rfl rfl) (c_r01_limb col_7 _ a0 cap0 p0_a i_13 h0 r_21 hr_22) ?_
   rintro _ w_23 ⟨rfl, hg_24⟩
   refine ⟨_, rfl, ?_⟩
   replace hg_24 : Grow col_7 w_6 col_7 w_23 := .of_below hg_24
   refine lA (.int .u64 r_21) ?_
   refine lN (wS (wR ?_))
   refine lM (.slice a1 p1_b.length cap1) ?_
   refine lM (.int .i64 i_13) ?_
   obtain ⟨r_25, hr_26, hm⟩ := bS hm
   replace h1 := h1.gr hg_24
   refine lc rfl rfl (r_call2 Tryz.call182 rfl rfl) (c_r01_limb col_7 _ a1 cap1 p1_b i_13 h1 r_25 hr_26) ?_
   rintro _ w_27 ⟨rfl, hg_28⟩
   refine ⟨_, rfl, ?_⟩
   replace hg_28 : Grow col_7 w_23 col_7 w_27 := .of_below hg_28
   refine lM (.int .u64 borrow_12) ?_
   refine lV (.int .u64 (IntKind.u64.wrap (r_25 + borrow_12))) (r_add r_25 borrow_12 rfl rfl) ?_
   refine lA (.int .u64 (IntKind.u64.wrap (r_25 + borrow_12))) ?_
   refine lN (wS (wR ?_))
   refine lA (.int .u64 0) ?_
   refine lN (wS ?_)
   replace h0 := (h0.gr hg_24).gr hg_28
   replace h_11 := (h_11.gr hg_24).gr hg_28
   replace hst := (hst.grow hg_24).grow hg_28
   replace h1 := h1.gr hg_28
   refine Wp.cut (fun f w_29 => ∃ (col_30 : Col) (borrow_31 : Int) (x_32 : Int), m_r01_Sub_J2 out_8 borrow_12 i_13 (m_r01_Sub_L1 N p0_a p1_b n_5) r_25 borrow_31 x_32 = some r ∧ St w0 (col0 col) col_30 w_29 ∧ Sl (Rep.int .u32) col_30 w_29 a0 cap0 p0_a ∧ Sl (Rep.int .u32) col_30 w_29 a1 cap1 p1_b ∧ Own (Rep.int .u32) 114 1 col_30 w_29 a_9 cap_10 out_8 ∧ f 0 = (.slice a0 p0_a.length cap0) ∧ f 1 = (.slice a1 p1_b.length cap1) ∧ f 10 = (.int .u64 (IntKind.u64.wrap (r_25 + borrow_12))) ∧ f 6 = (.slice a_9 out_8.length cap_10) ∧ f 7 = (.int .u64 borrow_31) ∧ f 8 = (.int .i64 i_13) ∧ f 9 = (.int .u64 x_32) ∧ f 1000000 = (enc [])) ?_ ?_
   ·intro f w_29 hJ
    obtain ⟨col_30, borrow_31, x_32, hm, hst, h0, h1, h_11, hs0, hs1, hs10, hs6, hs7, hs8, hs9, hs1000000⟩ := hJ
    rw [m_r01_Sub_J2.eq_1] at hm
    refine .lD 0 hs0 ?_
    refine .lD 1 hs1 ?_
    refine .lD 10 hs10 ?_
    refine .lD 6 hs6 ?_
    refine .lD 7 hs7 ?_
    refine .lD 8 hs8 ?_
    refine .lD 9 hs9 ?_
    refine .lD 1000000 hs1000000 ?_
    clear hs0 hs1 hs10 hs6 hs7 hs8 hs9 hs1000000
    refine wR ?_
    refine lM (.slice a_9 out_8.length cap_10) ?_
    refine lM (.int .u64 x_32) ?_
    refine lM (.int .u64 (IntKind.u64.wrap (r_25 + borrow_12))) ?_
    refine lV (.int .u64 (IntKind.u64.wrap (x_32 - (IntKind.u64.wrap (r_25 + borrow_12))))) (r_sub x_32 (IntKind.u64.wrap (r_25 + borrow_12)) rfl rfl) ?_
    refine lV (.int .u32 (IntKind.u32.wrap (IntKind.u64.wrap (x_32 - (IntKind.u64.wrap (r_25 + borrow_12)))))) (r_conv (IntKind.u64.wrap (x_32 - (IntKind.u64.wrap (r_25 + borrow_12)))) ⟨_, Tryz.underlying108⟩ Tryz.underlying114 rfl) ?_
    refine l_lit (col := col_30) (r := (Rep.int .u32)) (xs := [IntKind.u32.wrap (IntKind.u64.wrap (x_32 - (IntKind.u64.wrap (r_25 + borrow_12))))]) [(.int .u32 (IntKind.u32.wrap (IntKind.u64.wrap (x_32 - (IntKind.u64.wrap (r_25 + borrow_12))))))] 2 rfl Tryz.underlying36 el114_189 rfl rfl rfl rfl rfl rfl (by intro v hv; simp only [List.mem_cons, List.not_mem_nil, or_false] at hv; subst hv; rfl) (RowsH.ofF (Rows.consF (r := (Rep.int .u32)) (x := IntKind.u32.wrap (IntKind.u64.wrap (x_32 - (IntKind.u64.wrap (r_25 + borrow_12))))) (cs := [(.int .u32 (IntKind.u32.wrap (IntKind.u64.wrap (x_32 - (IntKind.u64.wrap (r_25 + borrow_12))))))]) (rd_int .u32 (IntKind.u32.wrap (IntKind.u64.wrap (x_32 - (IntKind.u64.wrap (r_25 + borrow_12)))))) Rows.nil0)) ?_
    intro a_33 w_34 col_35 hg_36 h_37
    obtain ⟨hb_38, hm⟩ := cS hm
    replace h_11 := h_11.gr hg_36
    refine l_appendM (col := col_35) (w := w_34) (r := (Rep.int .u32)) (c := 1) (c2 := 1) (xs := out_8) (ys := [IntKind.u32.wrap (IntKind.u64.wrap (x_32 - (IntKind.u64.wrap (r_25 + borrow_12))))]) h_11 (h_37.srcN (NB.int (k := .u32))) rfl Tryz.underlying36 el114_189 rfl rfl rfl hb_38.1 hb_38.2 (by decide) ?_
    intro a_39 cap_40 w_41 col_42 hk_43 h_44
    clear h_11
    refine lA (.slice a_39 ((out_8 ++ [IntKind.u32.wrap (IntKind.u64.wrap (x_32 - (IntKind.u64.wrap (r_25 + borrow_12))))]).length) cap_40) ?_
    refine lN ?_
    replace h0 := (h0.gr hg_36).kpp hk_43
    replace h1 := (h1.gr hg_36).kpp hk_43
    replace hst := (hst.grow hg_36).kpp hk_43
    exact ⟨col_42, a_39, cap_40, (out_8 ++ [IntKind.u32.wrap (IntKind.u64.wrap (x_32 - (IntKind.u64.wrap (r_25 + borrow_12))))]), borrow_31, hm, hst, h0, h1, h_44, rfl, rfl, rfl, rfl, rfl, rfl⟩
   refine wS (wR ?_)
   refine lM (.int .u64 r_21) ?_
   refine lM (.int .u64 (IntKind.u64.wrap (r_25 + borrow_12))) ?_
   refine lV (.bool (decide (r_21 < (IntKind.u64.wrap (r_25 + borrow_12))))) (r_lss r_21 (IntKind.u64.wrap (r_25 + borrow_12)) rfl rfl) ?_
   refine lN ?_
   refine wcond (decide (r_21 < (IntKind.u64.wrap (r_25 + borrow_12)))) rfl (fun hb => ?_) (fun hb => ?_)
   ·rw [if_pos hb] at hm
    clear hb
    cases hm
   rw [if_neg (by rw [hb]; decide)] at hm
   clear hb
   refine wK ?_
   exact ⟨col_7, 0, r_21, hm, hst, h0, h1, h_11, rfl, rfl, rfl, rfl, rfl, rfl, rfl, rfl⟩
  rw [if_neg (by rw [hb]; decide)] at hm
  clear hb
  refine wexit (inB_hit ?_)
  refine wS (wR ?_)
  refine lM (.slice a_9 out_8.length cap_10) ?_
  obtain ⟨r_45, hr_46, hm⟩ := bS hm
  refine lc rfl rfl (r_call1 Tryz.call159 rfl) (c_r01_Norm N 3 (frC 1 col_7) _ a_9 cap_10 out_8 (h_11.toSlF (Froz.int .u32)) r_45 hr_46) ?_
  rintro _ w_50 ⟨col_52, ra_47, rc_48, rfl, hg_51, rh_49⟩
  refine ⟨_, rfl, ?_⟩
  replace rh_49 := rh_49.thaw (flat_int .u32) hg_51 ((Fz.refl (col := col_7)).froz 1) (by decide)
  replace hg_51 := hg_51.thawR (col := col_7)
  generalize colR w_6.heap.size col_7 col_52 = col_53 at *
  refine lA (.slice ra_47 r_45.length rc_48) ?_
  refine lA (.bool true) ?_
  refine lN ?_
  refine wret ?_
  cases hm
  replace hst := hst.grow hg_51
  exact ⟨rfl, colF w0.heap.size col col_53 (fun n => bif Nat.beq n 3 then c1 else 0), ra_47, rc_48, rfl, hst.fin (fun n => bif Nat.beq n 3 then c1 else 0), hst.finOwn (g := (fun n => bif Nat.beq n 3 then c1 else 0)) rfl rh_49 (by decide) (by decide) rfl⟩
def m_r01_Gcd_J3 (N : Nat) (kk_L2 : ((List Int) → (List Int) → Option (List Int))) (x_112 : List Int) (y_116 : List Int) : Option (List Int) :=
  (m_r01_Sub N y_116 x_112).bind fun r_120 => kk_L2 x_112 r_120.1
def m_r01_Gcd_J2 (N : Nat) (kk_L2 : ((List Int) → (List Int) → Option (List Int))) (x_64 : List Int) (y_84 : List Int) (kk_L4 : ((List Int) → Option (List Int))) (v_100 : Bool) : Option (List Int) :=
  if v_100 = true then ((m_r01_half N y_84).bind fun r_101 => kk_L4 r_101) else ((m_r01_Cmp N x_64 y_84).bind fun r_129 => if (decide (0 < r_129)) = true then (m_r01_Gcd_J3 N kk_L2 y_84 x_64) else (m_r01_Gcd_J3 N kk_L2 x_64 y_84))
def m_r01_Gcd_L4 (N : Nat) (kk_L2 : ((List Int) → (List Int) → Option (List Int))) (x_64 : List Int) : Nat → (List Int) → Option (List Int)
  | 0, _ => none
  | n_81 + 1, y_84 => if (decide (0 < (y_84.length : Int))) = true then ((m_r01_even y_84).bind fun r_134 => m_r01_Gcd_J2 N kk_L2 x_64 y_84 (m_r01_Gcd_L4 N kk_L2 x_64 n_81) r_134) else (m_r01_Gcd_J2 N kk_L2 x_64 y_84 (m_r01_Gcd_L4 N kk_L2 x_64 n_81) false)
termination_by structural x => x
def m_r01_Gcd_L3 (N : Nat) (y_57 : List Int) (kk_L2 : ((List Int) → (List Int) → Option (List Int))) : Nat → (List Int) → Option (List Int)
  | 0, _ => none
  | n_61 + 1, x_64 => (m_r01_even x_64).bind fun r_68 => if r_68 = true then ((m_r01_half N x_64).bind fun r_72 => (m_r01_Gcd_L3 N y_57 kk_L2 n_61) r_72) else (m_r01_Gcd_L4 N kk_L2 x_64 N y_57)
termination_by structural x => x
def m_r01_Gcd_L5 (N : Nat) (twos_28 : Int) : Nat → (List Int) → Int → Option (List Int)
  | 0, _, _ => none
  | n_138 + 1, x_141, i_145 => if (decide (i_145 < twos_28)) = true then none else (some x_141)
def m_r01_Gcd_L2 (N : Nat) (twos_28 : Int) : Nat → (List Int) → (List Int) → Option (List Int)
  | 0, _, _ => none
  | n_50 + 1, x_53, y_57 => if (decide (0 < (y_57.length : Int))) = true then (m_r01_Gcd_L3 N y_57 (m_r01_Gcd_L2 N twos_28 n_50) N x_53) else (m_r01_Gcd_L5 N twos_28 N x_53 0)
termination_by structural x => x
def m_r01_Gcd_J1 (N : Nat) (x_20 : List Int) (y_24 : List Int) (twos_28 : Int) (v_49 : Bool) : Option (List Int) :=
  if v_49 = true then none else (m_r01_Gcd_L2 N twos_28 N x_20 y_24)
def m_r01_Gcd_L1 (N : Nat)  : Nat → (List Int) → (List Int) → Int → Option (List Int)
  | 0, _, _, _ => none
  | n_17 + 1, x_20, y_24, twos_28 => (m_r01_even x_20).bind fun r_146 => if r_146 = true then ((m_r01_even y_24).bind fun r_151 => m_r01_Gcd_J1 N x_20 y_24 twos_28 r_151) else (m_r01_Gcd_J1 N x_20 y_24 twos_28 false)
def m_r01_Gcd (N : Nat) (p0_a : (List Int)) (p1_b : (List Int)) : Option (List Int) :=
  (m_r01_Norm N p0_a).bind fun r_1 => (m_r01_Norm N p1_b).bind fun r_9 => if (decide ((r_1.length : Int) = 0)) = true then none else (if (decide ((r_9.length : Int) = 0)) = true then none else (m_r01_Gcd_L1 N N r_1 r_9 0))
theorem c_r01_Gcd (N : Nat) (c1 : Nat) (col : Col) (w0 : World) (a0 : Option Addr) (cap0 : Nat) (p0_a : (List Int)) (a1 : Option Addr) (cap1 : Nat) (p1_b : (List Int)) (h0 : Sl (Rep.int .u32) col w0 a0 cap0 p0_a) (h1 : Sl (Rep.int .u32) col w0 a1 cap1 p1_b) (r : (List Int)) (hm : m_r01_Gcd N p0_a p1_b = some r) :
    Calls Tryz.prog 180 #[(.slice a0 p0_a.length cap0), (.slice a1 p1_b.length cap1)] w0 (fun e w' => ∃ (col' : Col) (ra1 : Option Addr) (rc2 : Nat), e = .returned ((.slice ra1 r.length rc2)) ∧ Grow col w0 col' w' ∧ Own (Rep.int .u32) 114 c1 col' w' ra1 rc2 r) := by
 refine calls_of1 4 (m := 69) (args := [(.slice a0 p0_a.length cap0), (.slice a1 p1_b.length cap1)]) Tryz.func180 rfl rfl rfl rfl rfl ?_
 rw [m_r01_Gcd.eq_1] at hm
 have hst := St.start col w0
 refine wS (wR ?_)
 refine lA (.slice none (([] : List Int).length) 0) ?_
 refine lN (wS (wR ?_))
 refine lM (.slice a0 p0_a.length cap0) ?_
 obtain ⟨r_1, hr_2, hm⟩ := bS hm
 replace h0 := h0.keep (Stay.start col w0)
 refine lc rfl rfl (r_call1 Tryz.call159 rfl) (c_r01_Norm N 1 (col0 col) _ a0 cap0 p0_a h0 r_1 hr_2) ?_
 rintro _ w_6 ⟨col_8, ra_3, rc_4, rfl, hg_7, rh_5⟩
 refine ⟨_, rfl, ?_⟩
 refine lA (.slice ra_3 r_1.length rc_4) ?_
 refine lN (wS (wR ?_))
 refine lM (.slice a1 p1_b.length cap1) ?_
 obtain ⟨r_9, hr_10, hm⟩ := bS hm
 replace h1 := (h1.keep (Stay.start col w0)).gr hg_7
 refine lc rfl rfl (r_call1 Tryz.call159 rfl) (c_r01_Norm N 2 col_8 _ a1 cap1 p1_b h1 r_9 hr_10) ?_
 rintro _ w_14 ⟨col_16, ra_11, rc_12, rfl, hg_15, rh_13⟩
 refine ⟨_, rfl, ?_⟩
 refine lA (.slice ra_11 r_9.length rc_12) ?_
 refine lN (wS (wS (wR ?_)))
 refine lM (.slice ra_3 r_1.length rc_4) ?_
 refine lV (.int .i64 (r_1.length : Int)) (r_len Tryz.underlying36 rfl) ?_
 refine lV (.bool (decide ((r_1.length : Int) = 0))) (r_eql (r_1.length : Int) 0 rfl rfl) ?_
 refine lN ?_
 replace hst := (hst.grow hg_7).grow hg_15
 replace rh_5 := rh_5.gr hg_15
 refine wcond (decide ((r_1.length : Int) = 0)) rfl (fun hb => ?_) (fun hb => ?_)
 ·rw [if_pos hb] at hm
  clear hb
  cases hm
 rw [if_neg (by rw [hb]; decide)] at hm
 clear hb
 refine wK (wS (wS (wR ?_)))
 refine lM (.slice ra_11 r_9.length rc_12) ?_
 refine lV (.int .i64 (r_9.length : Int)) (r_len Tryz.underlying36 rfl) ?_
 refine lV (.bool (decide ((r_9.length : Int) = 0))) (r_eql (r_9.length : Int) 0 rfl rfl) ?_
 refine lN ?_
 refine wcond (decide ((r_9.length : Int) = 0)) rfl (fun hb => ?_) (fun hb => ?_)
 ·rw [if_pos hb] at hm
  clear hb
  cases hm
 rw [if_neg (by rw [hb]; decide)] at hm
 clear hb
 refine wK (wS (wR ?_))
 refine lA (.int .i64 0) ?_
 refine lN (wS (wB ?_))
 refine wloop (fun n f w_18 => ∃ (col_19 : Col) (a_21 : Option Addr) (cap_22 : Nat) (x_20 : List Int) (a_25 : Option Addr) (cap_26 : Nat) (y_24 : List Int) (twos_28 : Int) (n_17 : Nat), n_17 = n ∧ m_r01_Gcd_L1 N n_17 x_20 y_24 twos_28 = some r ∧ St w0 (col0 col) col_19 w_18 ∧ Own (Rep.int .u32) 114 1 col_19 w_18 a_21 cap_22 x_20 ∧ Own (Rep.int .u32) 114 2 col_19 w_18 a_25 cap_26 y_24 ∧ f 5 = (.slice a_21 x_20.length cap_22) ∧ f 6 = (.slice a_25 y_24.length cap_26) ∧ f 7 = (.int .i64 twos_28) ∧ f 1000000 = (enc [])) N ⟨col_16, ra_3, rc_4, r_1, ra_11, rc_12, r_9, 0, N, rfl, hm, hst, rh_5, rh_13, rfl, rfl, rfl, rfl⟩ ?_
 clear hm; intro n f w_18 hI
 obtain ⟨col_19, a_21, cap_22, x_20, a_25, cap_26, y_24, twos_28, n_17, hn, hm, hst, h_23, h_27, hs5, hs6, hs7, hs1000000⟩ := hI
 subst hn
 refine .lD 5 hs5 ?_
 refine .lD 6 hs6 ?_
 refine .lD 7 hs7 ?_
 refine .lD 1000000 hs1000000 ?_
 clear hs5 hs6 hs7 hs1000000
 cases n_17 with
 | zero => rw [m_r01_Gcd_L1.eq_1] at hm; cases hm
 | succ n_17 =>
  rw [m_r01_Gcd_L1.eq_2] at hm
  refine wS (wS ?_)
  refine Wp.cut (fun f w_47 => ∃ (col_48 : Col) (v_49 : Bool), m_r01_Gcd_J1 N x_20 y_24 twos_28 v_49 = some r ∧ St w0 (col0 col) col_48 w_47 ∧ Own (Rep.int .u32) 114 1 col_48 w_47 a_21 cap_22 x_20 ∧ Own (Rep.int .u32) 114 2 col_48 w_47 a_25 cap_26 y_24 ∧ f 26 = (.bool v_49) ∧ f 5 = (.slice a_21 x_20.length cap_22) ∧ f 6 = (.slice a_25 y_24.length cap_26) ∧ f 7 = (.int .i64 twos_28) ∧ f 1000000 = (enc [])) ?_ ?_
  ·intro f w_47 hJ
   obtain ⟨col_48, v_49, hm, hst, h_23, h_27, hs26, hs5, hs6, hs7, hs1000000⟩ := hJ
   rw [m_r01_Gcd_J1.eq_1] at hm
   refine .lD 26 hs26 ?_
   refine .lD 5 hs5 ?_
   refine .lD 6 hs6 ?_
   refine .lD 7 hs7 ?_
   refine .lD 1000000 hs1000000 ?_
   clear hs26 hs5 hs6 hs7 hs1000000
   refine wcond (v_49) rfl (fun hb => ?_) (fun hb => ?_)
   ·rw [if_pos hb] at hm
    clear hb
    cases hm
   rw [if_neg (by rw [hb]; decide)] at hm
   clear hb
   refine wexit (inB_hit ?_)
   refine wS (wB ?_)
   refine wloop (fun n f w_51 => ∃ (col_52 : Col) (a_54 : Option Addr) (cap_55 : Nat) (x_53 : List Int) (a_58 : Option Addr) (cap_59 : Nat) (y_57 : List Int) (n_50 : Nat), n_50 = n ∧ m_r01_Gcd_L2 N twos_28 n_50 x_53 y_57 = some r ∧ St w0 (col0 col) col_52 w_51 ∧ Own (Rep.int .u32) 114 1 col_52 w_51 a_54 cap_55 x_53 ∧ Own (Rep.int .u32) 114 2 col_52 w_51 a_58 cap_59 y_57 ∧ f 5 = (.slice a_54 x_53.length cap_55) ∧ f 6 = (.slice a_58 y_57.length cap_59) ∧ f 7 = (.int .i64 twos_28) ∧ f 1000000 = (enc [])) N ⟨col_48, a_21, cap_22, x_20, a_25, cap_26, y_24, N, rfl, hm, hst, h_23, h_27, rfl, rfl, rfl, rfl⟩ ?_
   clear hm; intro n f w_51 hI
   obtain ⟨col_52, a_54, cap_55, x_53, a_58, cap_59, y_57, n_50, hn, hm, hst, h_56, h_60, hs5, hs6, hs7, hs1000000⟩ := hI
   subst hn
   refine .lD 5 hs5 ?_
   refine .lD 6 hs6 ?_
   refine .lD 7 hs7 ?_
   refine .lD 1000000 hs1000000 ?_
   clear hs5 hs6 hs7 hs1000000
   cases n_50 with
   | zero => rw [m_r01_Gcd_L2.eq_1] at hm; cases hm
   | succ n_50 =>
    rw [m_r01_Gcd_L2.eq_2] at hm
    refine wS (wS (wR ?_))
    refine lM (.slice a_58 y_57.length cap_59) ?_
    refine lV (.int .i64 (y_57.length : Int)) (r_len Tryz.underlying36 rfl) ?_
    refine lV (.bool (decide (0 < (y_57.length : Int)))) (r_gtr (y_57.length : Int) 0 rfl rfl) ?_
    refine lN ?_
    refine wcond (decide (0 < (y_57.length : Int))) rfl (fun hb => ?_) (fun hb => ?_)
    ·rw [if_pos hb] at hm
     clear hb
     refine wK (wB (wS (wB ?_)))
     refine wloop (fun n f w_62 => ∃ (col_63 : Col) (a_65 : Option Addr) (cap_66 : Nat) (x_64 : List Int) (n_61 : Nat), n_61 = n ∧ m_r01_Gcd_L3 N y_57 (m_r01_Gcd_L2 N twos_28 n_50) n_61 x_64 = some r ∧ St w0 (col0 col) col_63 w_62 ∧ Own (Rep.int .u32) 114 1 col_63 w_62 a_65 cap_66 x_64 ∧ Own (Rep.int .u32) 114 2 col_63 w_62 a_58 cap_59 y_57 ∧ f 5 = (.slice a_65 x_64.length cap_66) ∧ f 6 = (.slice a_58 y_57.length cap_59) ∧ f 7 = (.int .i64 twos_28) ∧ f 1000000 = (enc [])) N ⟨col_52, a_54, cap_55, x_53, N, rfl, hm, hst, h_56, h_60, rfl, rfl, rfl, rfl⟩ ?_
     clear hm; intro n f w_62 hI
     obtain ⟨col_63, a_65, cap_66, x_64, n_61, hn, hm, hst, h_67, h_60, hs5, hs6, hs7, hs1000000⟩ := hI
     subst hn
     refine .lD 5 hs5 ?_
     refine .lD 6 hs6 ?_
     refine .lD 7 hs7 ?_
     refine .lD 1000000 hs1000000 ?_
     clear hs5 hs6 hs7 hs1000000
     cases n_61 with
     | zero => rw [m_r01_Gcd_L3.eq_1] at hm; cases hm
     | succ n_61 =>
      rw [m_r01_Gcd_L3.eq_2] at hm
      refine wS (wS (wR ?_))
      refine lM (.slice a_65 x_64.length cap_66) ?_
      obtain ⟨r_68, hr_69, hm⟩ := bS hm
      refine lc rfl rfl (r_call1 Tryz.call190 rfl) (c_r01_even (frC 1 col_63) _ a_65 cap_66 x_64 (h_67.toSlF (Froz.int .u32)) r_68 hr_69) ?_
      rintro _ w_70 ⟨rfl, hg_71⟩
      refine ⟨_, rfl, ?_⟩
      replace hg_71 : Grow col_63 w_62 col_63 w_70 := .of_below hg_71
      refine lN ?_
      replace h_67 := h_67.gr hg_71
      replace h_60 := h_60.gr hg_71
      replace hst := hst.grow hg_71
      refine wcond (r_68) rfl (fun hb => ?_) (fun hb => ?_)
      ·rw [if_pos hb] at hm
       clear hb
       refine wK (wB (wR ?_))
       refine lM (.slice a_65 x_64.length cap_66) ?_
       obtain ⟨r_72, hr_73, hm⟩ := bS hm
       refine lc rfl rfl (r_call1 Tryz.call191 rfl) (c_r01_half N 3 (frC 1 col_63) _ a_65 cap_66 x_64 (h_67.toSlF (Froz.int .u32)) r_72 hr_73) ?_
       rintro _ w_77 ⟨col_79, ra_74, rc_75, rfl, hg_78, rh_76⟩
       refine ⟨_, rfl, ?_⟩
       replace rh_76 := rh_76.thaw (flat_int .u32) hg_78 ((Fz.refl (col := col_63)).froz 1) (by decide)
       replace hg_78 := hg_78.thawR (col := col_63)
       generalize colR w_70.heap.size col_63 col_79 = col_80 at *
       refine lA (.slice ra_74 r_72.length rc_75) ?_
       refine lN ?_
       replace h_60 := h_60.gr hg_78
       replace h_60 := h_60.recol 3 1 (by decide)
       replace rh_76 := rh_76.recolSelf 1 (by decide)
       replace hst := hst.grow hg_78
       replace hst := hst.recol 3 1 (by decide) (by decide)
       exact ⟨n_61, by omega, ⟨(rcC 3 1 col_80), ra_74, rc_75, r_72, n_61, rfl, hm, hst, rh_76, h_60, rfl, rfl, rfl, rfl⟩⟩
      rw [if_neg (by rw [hb]; decide)] at hm
      clear hb
      refine wexit (inB_hit ?_)
      refine wS (wB ?_)
      refine wloop (fun n f w_82 => ∃ (col_83 : Col) (a_85 : Option Addr) (cap_86 : Nat) (y_84 : List Int) (n_81 : Nat), n_81 = n ∧ m_r01_Gcd_L4 N (m_r01_Gcd_L2 N twos_28 n_50) x_64 n_81 y_84 = some r ∧ St w0 (col0 col) col_83 w_82 ∧ Own (Rep.int .u32) 114 1 col_83 w_82 a_65 cap_66 x_64 ∧ Own (Rep.int .u32) 114 2 col_83 w_82 a_85 cap_86 y_84 ∧ f 5 = (.slice a_65 x_64.length cap_66) ∧ f 6 = (.slice a_85 y_84.length cap_86) ∧ f 7 = (.int .i64 twos_28) ∧ f 1000000 = (enc [])) N ⟨col_63, a_58, cap_59, y_57, N, rfl, hm, hst, h_67, h_60, rfl, rfl, rfl, rfl⟩ ?_
      clear hm; intro n f w_82 hI
      obtain ⟨col_83, a_85, cap_86, y_84, n_81, hn, hm, hst, h_67, h_87, hs5, hs6, hs7, hs1000000⟩ := hI
      subst hn
      refine .lD 5 hs5 ?_
      refine .lD 6 hs6 ?_
      refine .lD 7 hs7 ?_
      refine .lD 1000000 hs1000000 ?_
      clear hs5 hs6 hs7 hs1000000
      cases n_81 with
      | zero => rw [m_r01_Gcd_L4.eq_1] at hm; cases hm
      | succ n_81 =>
       rw [m_r01_Gcd_L4.eq_2] at hm
       refine wS (wS ?_)
       refine Wp.cut (fun f w_98 => ∃ (col_99 : Col) (v_100 : Bool), m_r01_Gcd_J2 N (m_r01_Gcd_L2 N twos_28 n_50) x_64 y_84 (m_r01_Gcd_L4 N (m_r01_Gcd_L2 N twos_28 n_50) x_64 n_81) v_100 = some r ∧ St w0 (col0 col) col_99 w_98 ∧ Own (Rep.int .u32) 114 1 col_99 w_98 a_65 cap_66 x_64 ∧ Own (Rep.int .u32) 114 2 col_99 w_98 a_85 cap_86 y_84 ∧ f 46 = (.bool v_100) ∧ f 5 = (.slice a_65 x_64.length cap_66) ∧ f 6 = (.slice a_85 y_84.length cap_86) ∧ f 7 = (.int .i64 twos_28) ∧ f 1000000 = (enc [])) ?_ ?_
       ·intro f w_98 hJ
        obtain ⟨col_99, v_100, hm, hst, h_67, h_87, hs46, hs5, hs6, hs7, hs1000000⟩ := hJ
        rw [m_r01_Gcd_J2.eq_1] at hm
        refine .lD 46 hs46 ?_
        refine .lD 5 hs5 ?_
        refine .lD 6 hs6 ?_
        refine .lD 7 hs7 ?_
        refine .lD 1000000 hs1000000 ?_
        clear hs46 hs5 hs6 hs7 hs1000000
        refine wcond (v_100) rfl (fun hb => ?_) (fun hb => ?_)
        ·rw [if_pos hb] at hm
         clear hb
         refine wK (wB (wR ?_))
         refine lM (.slice a_85 y_84.length cap_86) ?_
         obtain ⟨r_101, hr_102, hm⟩ := bS hm
         refine lc rfl rfl (r_call1 Tryz.call191 rfl) (c_r01_half N 4 (frC 2 col_99) _ a_85 cap_86 y_84 (h_87.toSlF (Froz.int .u32)) r_101 hr_102) ?_
         rintro _ w_106 ⟨col_108, ra_103, rc_104, rfl, hg_107, rh_105⟩
         refine ⟨_, rfl, ?_⟩
         replace rh_105 := rh_105.thaw (flat_int .u32) hg_107 ((Fz.refl (col := col_99)).froz 2) (by decide)
         replace hg_107 := hg_107.thawR (col := col_99)
         generalize colR w_98.heap.size col_99 col_108 = col_109 at *
         refine lA (.slice ra_103 r_101.length rc_104) ?_
         refine lN ?_
         replace h_67 := h_67.gr hg_107
         replace h_67 := h_67.recol 4 2 (by decide)
         replace rh_105 := rh_105.recolSelf 2 (by decide)
         replace hst := hst.grow hg_107
         replace hst := hst.recol 4 2 (by decide) (by decide)
         exact ⟨n_81, by omega, ⟨(rcC 4 2 col_109), ra_103, rc_104, r_101, n_81, rfl, hm, hst, h_67, rh_105, rfl, rfl, rfl, rfl⟩⟩
        rw [if_neg (by rw [hb]; decide)] at hm
        clear hb
        refine wexit (inB_hit ?_)
        refine wS ?_
        refine Wp.cut (fun f w_110 => ∃ (col_111 : Col) (a_113 : Option Addr) (cap_114 : Nat) (x_112 : List Int) (a_117 : Option Addr) (cap_118 : Nat) (y_116 : List Int), m_r01_Gcd_J3 N (m_r01_Gcd_L2 N twos_28 n_50) x_112 y_116 = some r ∧ St w0 (col0 col) col_111 w_110 ∧ Own (Rep.int .u32) 114 1 col_111 w_110 a_113 cap_114 x_112 ∧ Own (Rep.int .u32) 114 2 col_111 w_110 a_117 cap_118 y_116 ∧ f 5 = (.slice a_113 x_112.length cap_114) ∧ f 6 = (.slice a_117 y_116.length cap_118) ∧ f 7 = (.int .i64 twos_28) ∧ f 1000000 = (enc [])) ?_ ?_
        ·intro f w_110 hJ
         obtain ⟨col_111, a_113, cap_114, x_112, a_117, cap_118, y_116, hm, hst, h_115, h_119, hs5, hs6, hs7, hs1000000⟩ := hJ
         rw [m_r01_Gcd_J3.eq_1] at hm
         refine .lD 5 hs5 ?_
         refine .lD 6 hs6 ?_
         refine .lD 7 hs7 ?_
         refine .lD 1000000 hs1000000 ?_
         clear hs5 hs6 hs7 hs1000000
         refine wR ?_
         refine lM (.slice a_117 y_116.length cap_118) ?_
         refine lM (.slice a_113 x_112.length cap_114) ?_
         obtain ⟨r_120, hr_121, hm⟩ := bS hm
         refine lc rfl rfl (r_call2 Tryz.call189 rfl rfl) (c_r01_Sub N 5 (frC 1 (frC 2 col_111)) _ a_117 cap_118 y_116 a_113 cap_114 x_112 ((h_119.toSlF (Froz.int .u32)).froz 1) ((h_115.froz 2 (by decide)).toSlF (Froz.int .u32)) r_120 hr_121) ?_
         rintro _ w_125 ⟨col_127, ra_122, rc_123, rfl, hg_126, rh_124⟩
         refine ⟨_, rfl, ?_⟩
         replace rh_124 := rh_124.thaw (flat_int .u32) hg_126 (((Fz.refl (col := col_111)).froz 2).froz 1) (by decide)
         replace hg_126 := hg_126.thawR (col := col_111)
         generalize colR w_110.heap.size col_111 col_127 = col_128 at *
         refine lM (.tuple #[(.slice ra_122 r_120.1.length rc_123), (.bool r_120.2)]) ?_
         refine lV (.slice ra_122 r_120.1.length rc_123) (r_extract rfl rfl) ?_
         refine lV (.bool r_120.2) (r_extract rfl rfl) ?_
         refine lA (.slice ra_122 r_120.1.length rc_123) ?_
         refine lN ?_
         replace h_115 := h_115.gr hg_126
         replace h_115 := h_115.recol 5 2 (by decide)
         replace rh_124 := rh_124.recolSelf 2 (by decide)
         replace hst := hst.grow hg_126
         replace hst := hst.recol 5 2 (by decide) (by decide)
         exact ⟨n_50, by omega, ⟨(rcC 5 2 col_128), a_113, cap_114, x_112, ra_122, rc_123, r_120.1, n_50, rfl, hm, hst, h_115, rh_124, rfl, rfl, rfl, rfl⟩⟩
        refine wS (wR ?_)
        refine lM (.slice a_65 x_64.length cap_66) ?_
        refine lM (.slice a_85 y_84.length cap_86) ?_
        obtain ⟨r_129, hr_130, hm⟩ := bS hm
        refine lc rfl rfl (r_call2 Tryz.call192 rfl rfl) (c_r01_Cmp N (frC 2 (frC 1 col_99)) _ a_65 cap_66 x_64 a_85 cap_86 y_84 ((h_67.toSlF (Froz.int .u32)).froz 2) ((h_87.froz 1 (by decide)).toSlF (Froz.int .u32)) r_129 hr_130) ?_
        rintro _ w_131 ⟨rfl, hg_132⟩
        refine ⟨_, rfl, ?_⟩
        replace hg_132 : Grow col_99 w_98 col_99 w_131 := .of_below hg_132
        refine lV (.bool (decide (0 < r_129))) (r_gtr r_129 0 rfl rfl) ?_
        refine lN ?_
        replace h_67 := h_67.gr hg_132
        replace h_87 := h_87.gr hg_132
        replace hst := hst.grow hg_132
        refine wcond (decide (0 < r_129)) rfl (fun hb => ?_) (fun hb => ?_)
        ·rw [if_pos hb] at hm
         clear hb
         refine wR ?_
         refine lM (.slice a_85 y_84.length cap_86) ?_
         refine lM (.slice a_65 x_64.length cap_66) ?_
         refine lA (.slice a_85 y_84.length cap_86) ?_
         refine lA (.slice a_65 x_64.length cap_66) ?_
         refine lN ?_
         replace h_87 := h_87.recol 1 6 (by decide)
         replace h_67 := h_67.recolSelf 6 (by decide)
         replace hst := hst.recol 1 6 (by decide) (by decide)
         replace h_87 := h_87.recolSelf 1 (by decide)
         replace h_67 := h_67.recol 2 1 (by decide)
         replace hst := hst.recol 2 1 (by decide) (by decide)
         replace h_87 := h_87.recol 6 2 (by decide)
         replace h_67 := h_67.recolSelf 2 (by decide)
         replace hst := hst.recol 6 2 (by decide) (by decide)
         exact ⟨(rcC 6 2 (rcC 2 1 (rcC 1 6 col_99))), a_85, cap_86, y_84, a_65, cap_66, x_64, hm, hst, h_87, h_67, rfl, rfl, rfl, rfl⟩
        rw [if_neg (by rw [hb]; decide)] at hm
        clear hb
        refine wK ?_
        exact ⟨col_99, a_65, cap_66, x_64, a_85, cap_86, y_84, hm, hst, h_67, h_87, rfl, rfl, rfl, rfl⟩
       refine wR ?_
       refine lM (.slice a_85 y_84.length cap_86) ?_
       refine lV (.int .i64 (y_84.length : Int)) (r_len Tryz.underlying36 rfl) ?_
       refine lV (.bool (decide (0 < (y_84.length : Int)))) (r_gtr (y_84.length : Int) 0 rfl rfl) ?_
       refine lM (.bool (decide (0 < (y_84.length : Int)))) ?_
       by_cases hg_133 : (decide (0 < (y_84.length : Int))) = true
       ·rw [if_pos hg_133] at hm
        refine lg (b := decide (0 < (y_84.length : Int))) 43 rfl rfl rfl (by rw [hg_133]; rfl) ?_
        refine lM (.slice a_85 y_84.length cap_86) ?_
        refine lg (b := decide (0 < (y_84.length : Int))) 43 rfl rfl rfl (by rw [hg_133]; rfl) ?_
        obtain ⟨r_134, hr_135, hm⟩ := bS hm
        refine lc rfl rfl (r_call1 Tryz.call190 rfl) (c_r01_even (frC 2 col_83) _ a_85 cap_86 y_84 (h_87.toSlF (Froz.int .u32)) r_134 hr_135) ?_
        rintro _ w_136 ⟨rfl, hg_137⟩
        refine ⟨_, rfl, ?_⟩
        replace hg_137 : Grow col_83 w_82 col_83 w_136 := .of_below hg_137
        refine lV (.bool r_134) (r_pickT (congrArg Value.bool hg_133) rfl) ?_
        refine lN ?_
        replace h_67 := h_67.gr hg_137
        replace h_87 := h_87.gr hg_137
        replace hst := hst.grow hg_137
        exact ⟨col_83, r_134, hm, hst, h_67, h_87, rfl, rfl, rfl, rfl, rfl⟩
       rw [if_neg hg_133] at hm
       replace hg_133 := Bool.eq_false_iff.2 hg_133
       refine lp (b := decide (0 < (y_84.length : Int))) 43 rfl rfl rfl rfl (by rw [hg_133]; rfl) ?_
       refine lp (b := decide (0 < (y_84.length : Int))) 43 rfl rfl rfl rfl (by rw [hg_133]; rfl) ?_
       refine lV (.bool false) (r_pickF (congrArg Value.bool hg_133) rfl) ?_
       refine lN ?_
       exact ⟨col_83, false, hm, hst, h_67, h_87, rfl, rfl, rfl, rfl, rfl⟩
    rw [if_neg (by rw [hb]; decide)] at hm
    clear hb
    refine wexit (inB_hit ?_)
    refine wS (wS (wR ?_))
    refine lA (.int .i64 0) ?_
    refine lN (wB ?_)
    refine wloop (fun n f w_139 => ∃ (col_140 : Col) (a_142 : Option Addr) (cap_143 : Nat) (x_141 : List Int) (i_145 : Int) (n_138 : Nat), n_138 = n ∧ m_r01_Gcd_L5 N twos_28 n_138 x_141 i_145 = some r ∧ St w0 (col0 col) col_140 w_139 ∧ Own (Rep.int .u32) 114 1 col_140 w_139 a_142 cap_143 x_141 ∧ f 5 = (.slice a_142 x_141.length cap_143) ∧ f 7 = (.int .i64 twos_28) ∧ f 8 = (.int .i64 i_145) ∧ f 1000000 = (enc [])) N ⟨col_52, a_54, cap_55, x_53, 0, N, rfl, hm, hst, h_56, rfl, rfl, rfl, rfl⟩ ?_
    clear hm; intro n f w_139 hI
    obtain ⟨col_140, a_142, cap_143, x_141, i_145, n_138, hn, hm, hst, h_144, hs5, hs7, hs8, hs1000000⟩ := hI
    subst hn
    refine .lD 5 hs5 ?_
    refine .lD 7 hs7 ?_
    refine .lD 8 hs8 ?_
    refine .lD 1000000 hs1000000 ?_
    clear hs5 hs7 hs8 hs1000000
    cases n_138 with
    | zero => rw [m_r01_Gcd_L5.eq_1] at hm; cases hm
    | succ n_138 =>
     rw [m_r01_Gcd_L5.eq_2] at hm
     refine wS (wS (wR ?_))
     refine lM (.int .i64 i_145) ?_
     refine lM (.int .i64 twos_28) ?_
     refine lV (.bool (decide (i_145 < twos_28))) (r_lss i_145 twos_28 rfl rfl) ?_
     refine lN ?_
     refine wcond (decide (i_145 < twos_28)) rfl (fun hb => ?_) (fun hb => ?_)
     ·rw [if_pos hb] at hm
      clear hb
      cases hm
     rw [if_neg (by rw [hb]; decide)] at hm
     clear hb
     refine wexit (inB_hit ?_)
     refine wS (wR ?_)
     refine lM (.slice a_142 x_141.length cap_143) ?_
     refine lA (.slice a_142 x_141.length cap_143) ?_
     refine lN ?_
     refine wret ?_
     cases hm
     exact ⟨rfl, colF w0.heap.size col col_140 (fun n => bif Nat.beq n 1 then c1 else 0), a_142, cap_143, rfl, hst.fin (fun n => bif Nat.beq n 1 then c1 else 0), hst.finOwn (g := (fun n => bif Nat.beq n 1 then c1 else 0)) rfl h_144 (by decide) (by decide) rfl⟩
  refine wR ?_
  refine lM (.slice a_21 x_20.length cap_22) ?_
  obtain ⟨r_146, hr_147, hm⟩ := bS hm
  refine lc rfl rfl (r_call1 Tryz.call190 rfl) (c_r01_even (frC 1 col_19) _ a_21 cap_22 x_20 (h_23.toSlF (Froz.int .u32)) r_146 hr_147) ?_
  rintro _ w_148 ⟨rfl, hg_149⟩
  refine ⟨_, rfl, ?_⟩
  replace hg_149 : Grow col_19 w_18 col_19 w_148 := .of_below hg_149
  refine lM (.bool r_146) ?_
  replace h_23 := h_23.gr hg_149
  replace h_27 := h_27.gr hg_149
  replace hst := hst.grow hg_149
  by_cases hg_150 : r_146 = true
  ·rw [if_pos hg_150] at hm
   refine lg (b := r_146) 23 rfl rfl rfl (by rw [hg_150]; rfl) ?_
   refine lM (.slice a_25 y_24.length cap_26) ?_
   refine lg (b := r_146) 23 rfl rfl rfl (by rw [hg_150]; rfl) ?_
   obtain ⟨r_151, hr_152, hm⟩ := bS hm
   refine lc rfl rfl (r_call1 Tryz.call190 rfl) (c_r01_even (frC 2 col_19) _ a_25 cap_26 y_24 (h_27.toSlF (Froz.int .u32)) r_151 hr_152) ?_
   rintro _ w_153 ⟨rfl, hg_154⟩
   refine ⟨_, rfl, ?_⟩
   replace hg_154 : Grow col_19 w_148 col_19 w_153 := .of_below hg_154
   refine lV (.bool r_151) (r_pickT (congrArg Value.bool hg_150) rfl) ?_
   refine lN ?_
   replace h_23 := h_23.gr hg_154
   replace h_27 := h_27.gr hg_154
   replace hst := hst.grow hg_154
   exact ⟨col_19, r_151, hm, hst, h_23, h_27, rfl, rfl, rfl, rfl, rfl⟩
  rw [if_neg hg_150] at hm
  replace hg_150 := Bool.eq_false_iff.2 hg_150
  refine lp (b := r_146) 23 rfl rfl rfl rfl (by rw [hg_150]; rfl) ?_
  refine lp (b := r_146) 23 rfl rfl rfl rfl (by rw [hg_150]; rfl) ?_
  refine lV (.bool false) (r_pickF (congrArg Value.bool hg_150) rfl) ?_
  refine lN ?_
  exact ⟨col_19, false, hm, hst, h_23, h_27, rfl, rfl, rfl, rfl, rfl⟩
def m_r01_Bits_L1 (N : Nat)  : Nat → Int → Int → Option Int
  | 0, _, _ => none
  | n_11 + 1, n_14, t_15 => if (decide (0 < t_15)) = true then ((m_r01_Bits_L1 N n_11) (IntKind.i64.wrap (n_14 + 1)) (IntKind.u32.wrap (Int.tdiv t_15 2))) else (some n_14)
termination_by structural x => x
def m_r01_Bits (N : Nat) (p0_a : (List Int)) : Option Int :=
  (m_r01_Norm N p0_a).bind fun r_1 => if (decide ((r_1.length : Int) = 0)) = true then none else ((at? r_1 (IntKind.i64.wrap ((r_1.length : Int) - 1))).bind fun e_9 => m_r01_Bits_L1 N N (IntKind.i64.wrap (32 * (IntKind.i64.wrap ((r_1.length : Int) - 1)))) e_9)
theorem c_r01_Bits (N : Nat) (col : Col) (w0 : World) (a0 : Option Addr) (cap0 : Nat) (p0_a : (List Int)) (h0 : Sl (Rep.int .u32) col w0 a0 cap0 p0_a) (r : Int) (hm : m_r01_Bits N p0_a = some r) :
    Calls Tryz.prog 194 #[(.slice a0 p0_a.length cap0)] w0 (fun e w' => e = .returned ((.int .i64 r)) ∧ Below w0.heap.size w0 w') := by
 refine calls_of1 2 (m := 28) (args := [(.slice a0 p0_a.length cap0)]) Tryz.func194 rfl rfl rfl rfl rfl ?_
 rw [m_r01_Bits.eq_1] at hm
 have hst := St.start col w0
 refine wS (wR ?_)
 refine lA (.int .i64 0) ?_
 refine lN (wS (wR ?_))
 refine lM (.slice a0 p0_a.length cap0) ?_
 obtain ⟨r_1, hr_2, hm⟩ := bS hm
 replace h0 := h0.keep (Stay.start col w0)
 refine lc rfl rfl (r_call1 Tryz.call159 rfl) (c_r01_Norm N 1 (col0 col) _ a0 cap0 p0_a h0 r_1 hr_2) ?_
 rintro _ w_6 ⟨col_8, ra_3, rc_4, rfl, hg_7, rh_5⟩
 refine ⟨_, rfl, ?_⟩
 refine lA (.slice ra_3 r_1.length rc_4) ?_
 refine lN (wS (wS (wR ?_)))
 refine lM (.slice ra_3 r_1.length rc_4) ?_
 refine lV (.int .i64 (r_1.length : Int)) (r_len Tryz.underlying36 rfl) ?_
 refine lV (.bool (decide ((r_1.length : Int) = 0))) (r_eql (r_1.length : Int) 0 rfl rfl) ?_
 refine lN ?_
 replace hst := hst.grow hg_7
 refine wcond (decide ((r_1.length : Int) = 0)) rfl (fun hb => ?_) (fun hb => ?_)
 ·rw [if_pos hb] at hm
  clear hb
  cases hm
 rw [if_neg (by rw [hb]; decide)] at hm
 clear hb
 refine wK (wS (wR ?_))
 refine lM (.slice ra_3 r_1.length rc_4) ?_
 refine lV (.int .i64 (r_1.length : Int)) (r_len Tryz.underlying36 rfl) ?_
 refine lV (.int .i64 (IntKind.i64.wrap ((r_1.length : Int) - 1))) (r_sub (r_1.length : Int) 1 rfl rfl) ?_
 refine lV (.int .i64 (IntKind.i64.wrap (32 * (IntKind.i64.wrap ((r_1.length : Int) - 1))))) (r_mul 32 (IntKind.i64.wrap ((r_1.length : Int) - 1)) rfl rfl) ?_
 refine lA (.int .i64 (IntKind.i64.wrap (32 * (IntKind.i64.wrap ((r_1.length : Int) - 1))))) ?_
 refine lN (wS (wS (wR ?_)))
 refine lM (.slice ra_3 r_1.length rc_4) ?_
 refine lM (.slice ra_3 r_1.length rc_4) ?_
 refine lV (.int .i64 (r_1.length : Int)) (r_len Tryz.underlying36 rfl) ?_
 refine lV (.int .i64 (IntKind.i64.wrap ((r_1.length : Int) - 1))) (r_sub (r_1.length : Int) 1 rfl rfl) ?_
 obtain ⟨e_9, hj_10, hm⟩ := bS hm
 refine lV (sptr ra_3 (Int.toNat (IntKind.i64.wrap ((r_1.length : Int) - 1)) * 1)) (r_idx Tryz.underlying36 Tryz.sizeOf114 rfl rfl (at?_some hj_10).1 (at?_some hj_10).2.1 (rh_5.addr hj_10)) ?_
 refine lV (.int .u32 e_9) (r_ld Tryz.isAgg114 rfl (rh_5.atInt hj_10)) ?_
 refine lA (.int .u32 e_9) ?_
 refine lN (wB ?_)
 refine wloop (fun n f w_12 => ∃ (col_13 : Col) (n_14 : Int) (t_15 : Int) (n_11 : Nat), n_11 = n ∧ m_r01_Bits_L1 N n_11 n_14 t_15 = some r ∧ St w0 (col0 col) col_13 w_12 ∧ f 4 = (.int .i64 n_14) ∧ f 5 = (.int .u32 t_15) ∧ f 1000000 = (enc [])) N ⟨col_8, (IntKind.i64.wrap (32 * (IntKind.i64.wrap ((r_1.length : Int) - 1)))), e_9, N, rfl, hm, hst, rfl, rfl, rfl⟩ ?_
 clear hm; intro n f w_12 hI
 obtain ⟨col_13, n_14, t_15, n_11, hn, hm, hst, hs4, hs5, hs1000000⟩ := hI
 subst hn
 refine .lD 4 hs4 ?_
 refine .lD 5 hs5 ?_
 refine .lD 1000000 hs1000000 ?_
 clear hs4 hs5 hs1000000
 cases n_11 with
 | zero => rw [m_r01_Bits_L1.eq_1] at hm; cases hm
 | succ n_11 =>
  rw [m_r01_Bits_L1.eq_2] at hm
  refine wS (wS (wR ?_))
  refine lM (.int .u32 t_15) ?_
  refine lV (.bool (decide (0 < t_15))) (r_gtr t_15 0 rfl rfl) ?_
  refine lN ?_
  refine wcond (decide (0 < t_15)) rfl (fun hb => ?_) (fun hb => ?_)
  ·rw [if_pos hb] at hm
   clear hb
   refine wK (wS (wB (wR ?_)))
   refine lM (.int .i64 n_14) ?_
   refine lV (.int .i64 (IntKind.i64.wrap (n_14 + 1))) (r_add n_14 1 rfl rfl) ?_
   refine lA (.int .i64 (IntKind.i64.wrap (n_14 + 1))) ?_
   refine lN (wR ?_)
   refine lM (.int .u32 t_15) ?_
   refine lV (.int .u32 (IntKind.u32.wrap (Int.tdiv t_15 2))) (r_quo t_15 2 rfl rfl (by decide)) ?_
   refine lA (.int .u32 (IntKind.u32.wrap (Int.tdiv t_15 2))) ?_
   refine lN ?_
   exact ⟨n_11, by omega, ⟨col_13, (IntKind.i64.wrap (n_14 + 1)), (IntKind.u32.wrap (Int.tdiv t_15 2)), n_11, rfl, hm, hst, rfl, rfl, rfl⟩⟩
  rw [if_neg (by rw [hb]; decide)] at hm
  clear hb
  refine wexit (inB_hit ?_)
  refine wS (wR ?_)
  refine lM (.int .i64 n_14) ?_
  refine lA (.int .i64 n_14) ?_
  refine lN ?_
  refine wret ?_
  cases hm
  exact ⟨rfl, rfl, hst.below⟩
def m_r01_Bit (p0_a : (List Int)) (p1_i : Int) : Option Int :=
  (m_r01_limb p0_a (IntKind.i64.wrap (Int.tdiv p1_i 32))).bind fun r_1 => chk (0 ≤ (Int.tmod p1_i 32)) (some (Int.tmod (IntKind.u32.wrap (ishr .u64 r_1 (Int.tmod p1_i 32))) 2))
theorem c_r01_Bit (col : Col) (w0 : World) (a0 : Option Addr) (cap0 : Nat) (p0_a : (List Int)) (p1_i : Int) (h0 : Sl (Rep.int .u32) col w0 a0 cap0 p0_a) (r : Int) (hm : m_r01_Bit p0_a p1_i = some r) :
    Calls Tryz.prog 195 #[(.slice a0 p0_a.length cap0), (.int .i64 p1_i)] w0 (fun e w' => e = .returned ((.int .u32 r)) ∧ Below w0.heap.size w0 w') := by
 refine calls_of1 4 (m := 14) (args := [(.slice a0 p0_a.length cap0), (.int .i64 p1_i)]) Tryz.func195 rfl rfl rfl rfl rfl ?_
 rw [m_r01_Bit.eq_1] at hm
 have hst := St.start col w0
 refine wS (wR ?_)
 refine lA (.int .u32 0) ?_
 refine lN (wS (wR ?_))
 refine lM (.slice a0 p0_a.length cap0) ?_
 refine lM (.int .i64 p1_i) ?_
 refine lV (.int .i64 (IntKind.i64.wrap (Int.tdiv p1_i 32))) (r_quo p1_i 32 rfl rfl (by decide)) ?_
 obtain ⟨r_1, hr_2, hm⟩ := bS hm
 replace h0 := h0.keep (Stay.start col w0)
 refine lc rfl rfl (r_call2 Tryz.call182 rfl rfl) (c_r01_limb (col0 col) _ a0 cap0 p0_a (IntKind.i64.wrap (Int.tdiv p1_i 32)) h0 r_1 hr_2) ?_
 rintro _ w_3 ⟨rfl, hg_4⟩
 refine ⟨_, rfl, ?_⟩
 replace hg_4 : Grow (col0 col) w0 (col0 col) w_3 := .of_below hg_4
 refine lM (.int .i64 p1_i) ?_
 refine lV (.int .i64 (Int.tmod p1_i 32)) (r_rem p1_i 32 rfl rfl (by decide)) ?_
 obtain ⟨h0_5, hm⟩ := cS hm
 refine lV (.int .u64 (ishr .u64 r_1 (Int.tmod p1_i 32))) (r_shr r_1 (Int.tmod p1_i 32) rfl rfl h0_5) ?_
 refine lV (.int .u32 (IntKind.u32.wrap (ishr .u64 r_1 (Int.tmod p1_i 32)))) (r_conv (ishr .u64 r_1 (Int.tmod p1_i 32)) ⟨_, Tryz.underlying108⟩ Tryz.underlying114 rfl) ?_
 refine lV (.int .u32 (Int.tmod (IntKind.u32.wrap (ishr .u64 r_1 (Int.tmod p1_i 32))) 2)) (r_rem (IntKind.u32.wrap (ishr .u64 r_1 (Int.tmod p1_i 32))) 2 rfl rfl (by decide)) ?_
 refine lA (.int .u32 (Int.tmod (IntKind.u32.wrap (ishr .u64 r_1 (Int.tmod p1_i 32))) 2)) ?_
 refine lN ?_
 refine wret ?_
 cases hm
 replace hst := hst.grow hg_4
 exact ⟨rfl, rfl, hst.below⟩
theorem el114_193 : ElemOk Tryz.prog 114 1 4 := ⟨Tryz.t114, _, rfl, rfl, rfl, rfl, rfl⟩
def m_r01_double_J1 (out_12 : List Int) : Option (List Int) :=
  some out_12
def m_r01_double_L1 (N : Nat) (p0_a : (List Int)) : Nat → (List Int) → Int → Int → Option (List Int)
  | 0, _, _, _ => none
  | n_1 + 1, out_4, carry_8, i_9 => if (decide (i_9 < (p0_a.length : Int))) = true then none else (if (decide (0 < carry_8)) = true then (chk ((out_4.length + [IntKind.u32.wrap carry_8].length) * 4 ≤ 140737488355328 ∧ out_4.length + [IntKind.u32.wrap carry_8].length ≤ maxLen) (m_r01_double_J1 (out_4 ++ [IntKind.u32.wrap carry_8]))) else (m_r01_double_J1 out_4))
def m_r01_double (N : Nat) (p0_a : (List Int)) (p1_bit : Int) : Option (List Int) :=
  m_r01_double_L1 N p0_a N ([] : List Int) (IntKind.u64.wrap p1_bit) 0
theorem c_r01_double (N : Nat) (c1 : Nat) (col : Col) (w0 : World) (a0 : Option Addr) (cap0 : Nat) (p0_a : (List Int)) (p1_bit : Int) (h0 : Sl (Rep.int .u32) col w0 a0 cap0 p0_a) (r : (List Int)) (hm : m_r01_double N p0_a p1_bit = some r) :
    Calls Tryz.prog 193 #[(.slice a0 p0_a.length cap0), (.int .u32 p1_bit)] w0 (fun e w' => ∃ (col' : Col) (ra1 : Option Addr) (rc2 : Nat), e = .returned ((.slice ra1 r.length rc2)) ∧ Grow col w0 col' w' ∧ Own (Rep.int .u32) 114 c1 col' w' ra1 rc2 r) := by
 refine calls_of1 4 (m := 40) (args := [(.slice a0 p0_a.length cap0), (.int .u32 p1_bit)]) Tryz.func193 rfl rfl rfl rfl rfl ?_
 rw [m_r01_double.eq_1] at hm
 have hst := St.start col w0
 refine wS (wR ?_)
 refine lA (.slice none (([] : List Int).length) 0) ?_
 refine lN (wS (wR ?_))
 refine lA (.slice none (([] : List Int).length) 0) ?_
 refine lN (wS (wR ?_))
 refine lM (.int .u32 p1_bit) ?_
 refine lV (.int .u64 (IntKind.u64.wrap p1_bit)) (r_conv p1_bit ⟨_, Tryz.underlying114⟩ Tryz.underlying108 rfl) ?_
 refine lA (.int .u64 (IntKind.u64.wrap p1_bit)) ?_
 refine lN (wS (wS (wR ?_)))
 refine lA (.int .i64 0) ?_
 refine lN (wB ?_)
 replace h0 := h0.keep (Stay.start col w0)
 refine wloop (fun n f w_2 => ∃ (col_3 : Col) (a_5 : Option Addr) (cap_6 : Nat) (out_4 : List Int) (carry_8 : Int) (i_9 : Int) (n_1 : Nat), n_1 = n ∧ m_r01_double_L1 N p0_a n_1 out_4 carry_8 i_9 = some r ∧ St w0 (col0 col) col_3 w_2 ∧ Sl (Rep.int .u32) col_3 w_2 a0 cap0 p0_a ∧ Own (Rep.int .u32) 114 1 col_3 w_2 a_5 cap_6 out_4 ∧ f 0 = (.slice a0 p0_a.length cap0) ∧ f 5 = (.slice a_5 out_4.length cap_6) ∧ f 6 = (.int .u64 carry_8) ∧ f 7 = (.int .i64 i_9) ∧ f 1000000 = (enc [])) N ⟨(col0 col), none, 0, ([] : List Int), (IntKind.u64.wrap p1_bit), 0, N, rfl, hm, hst, h0, Own.nil, rfl, rfl, rfl, rfl, rfl⟩ ?_
 clear hm; intro n f w_2 hI
 obtain ⟨col_3, a_5, cap_6, out_4, carry_8, i_9, n_1, hn, hm, hst, h0, h_7, hs0, hs5, hs6, hs7, hs1000000⟩ := hI
 subst hn
 refine .lD 0 hs0 ?_
 refine .lD 5 hs5 ?_
 refine .lD 6 hs6 ?_
 refine .lD 7 hs7 ?_
 refine .lD 1000000 hs1000000 ?_
 clear hs0 hs5 hs6 hs7 hs1000000
 cases n_1 with
 | zero => rw [m_r01_double_L1.eq_1] at hm; cases hm
 | succ n_1 =>
  rw [m_r01_double_L1.eq_2] at hm
  refine wS (wS (wR ?_))
  refine lM (.int .i64 i_9) ?_
  refine lM (.slice a0 p0_a.length cap0) ?_
  refine lV (.int .i64 (p0_a.length : Int)) (r_len Tryz.underlying36 rfl) ?_
  refine lV (.bool (decide (i_9 < (p0_a.length : Int)))) (r_lss i_9 (p0_a.length : Int) rfl rfl) ?_
  refine lN ?_
  refine wcond (decide (i_9 < (p0_a.length : Int))) rfl (fun hb => ?_) (fun hb => ?_)
  ·rw [if_pos hb] at hm
   clear hb
   cases hm
  rw [if_neg (by rw [hb]; decide)] at hm
  clear hb
  refine wexit (inB_hit ?_)
  refine wS ?_
  refine Wp.cut (fun f w_10 => ∃ (col_11 : Col) (a_13 : Option Addr) (cap_14 : Nat) (out_12 : List Int), m_r01_double_J1 out_12 = some r ∧ St w0 (col0 col) col_11 w_10 ∧ Own (Rep.int .u32) 114 1 col_11 w_10 a_13 cap_14 out_12 ∧ f 5 = (.slice a_13 out_12.length cap_14) ∧ f 1000000 = (enc [])) ?_ ?_
  ·intro f w_10 hJ
   obtain ⟨col_11, a_13, cap_14, out_12, hm, hst, h_15, hs5, hs1000000⟩ := hJ
   rw [m_r01_double_J1.eq_1] at hm
   refine .lD 5 hs5 ?_
   refine .lD 1000000 hs1000000 ?_
   clear hs5 hs1000000
   refine wS (wR ?_)
   refine lM (.slice a_13 out_12.length cap_14) ?_
   refine lA (.slice a_13 out_12.length cap_14) ?_
   refine lN ?_
   refine wret ?_
   cases hm
   exact ⟨rfl, colF w0.heap.size col col_11 (fun n => bif Nat.beq n 1 then c1 else 0), a_13, cap_14, rfl, hst.fin (fun n => bif Nat.beq n 1 then c1 else 0), hst.finOwn (g := (fun n => bif Nat.beq n 1 then c1 else 0)) rfl h_15 (by decide) (by decide) rfl⟩
  refine wS (wR ?_)
  refine lM (.int .u64 carry_8) ?_
  refine lV (.bool (decide (0 < carry_8))) (r_gtr carry_8 0 rfl rfl) ?_
  refine lN ?_
  refine wcond (decide (0 < carry_8)) rfl (fun hb => ?_) (fun hb => ?_)
  ·rw [if_pos hb] at hm
   clear hb
   refine wR ?_
   refine lM (.slice a_5 out_4.length cap_6) ?_
   refine lM (.int .u64 carry_8) ?_
   refine lV (.int .u32 (IntKind.u32.wrap carry_8)) (r_conv carry_8 ⟨_, Tryz.underlying108⟩ Tryz.underlying114 rfl) ?_
   refine l_lit (col := col_3) (r := (Rep.int .u32)) (xs := [IntKind.u32.wrap carry_8]) [(.int .u32 (IntKind.u32.wrap carry_8))] 2 rfl Tryz.underlying36 el114_193 rfl rfl rfl rfl rfl rfl (by intro v hv; simp only [List.mem_cons, List.not_mem_nil, or_false] at hv; subst hv; rfl) (RowsH.ofF (Rows.consF (r := (Rep.int .u32)) (x := IntKind.u32.wrap carry_8) (cs := [(.int .u32 (IntKind.u32.wrap carry_8))]) (rd_int .u32 (IntKind.u32.wrap carry_8)) Rows.nil0)) ?_
   intro a_16 w_17 col_18 hg_19 h_20
   obtain ⟨hb_21, hm⟩ := cS hm
   replace h_7 := h_7.gr hg_19
   refine l_appendM (col := col_18) (w := w_17) (r := (Rep.int .u32)) (c := 1) (c2 := 1) (xs := out_4) (ys := [IntKind.u32.wrap carry_8]) h_7 (h_20.srcN (NB.int (k := .u32))) rfl Tryz.underlying36 el114_193 rfl rfl rfl hb_21.1 hb_21.2 (by decide) ?_
   intro a_22 cap_23 w_24 col_25 hk_26 h_27
   clear h_7
   refine lA (.slice a_22 ((out_4 ++ [IntKind.u32.wrap carry_8]).length) cap_23) ?_
   refine lN ?_
   replace hst := (hst.grow hg_19).kpp hk_26
   exact ⟨col_25, a_22, cap_23, (out_4 ++ [IntKind.u32.wrap carry_8]), hm, hst, h_27, rfl, rfl⟩
  rw [if_neg (by rw [hb]; decide)] at hm
  clear hb
  refine wK ?_
  exact ⟨col_3, a_5, cap_6, out_4, hm, hst, h_7, rfl, rfl⟩
def m_r01_DivMod_J1 (i_26 : Int) (kk_L1 : ((List Int) → Int → (List Int) → Option ((List Int) × (List Int) × Int))) (r_33 : List Int) (q_37 : List Int) : Option ((List Int) × (List Int) × Int) :=
  kk_L1 r_33 (IntKind.i64.wrap (i_26 - 1)) q_37
def m_r01_DivMod_L1 (N : Nat) (p0_a : (List Int)) (r_1 : (List Int)) : Nat → (List Int) → Int → (List Int) → Option ((List Int) × (List Int) × Int)
  | 0, _, _, _ => none
  | n_19 + 1, r_22, i_26, q_27 => if (decide (0 ≤ i_26)) = true then ((m_r01_Bit p0_a i_26).bind fun r_41 => (m_r01_double N r_22 r_41).bind fun r_45 => (m_r01_Norm N r_45).bind fun r_54 => (m_r01_Cmp N r_54 r_1).bind fun r_63 => if (decide (0 ≤ r_63)) = true then ((m_r01_Sub N r_54 r_1).bind fun r_67 => (at? q_27 (IntKind.i64.wrap (Int.tdiv i_26 32))).bind fun e_76 => chk (0 ≤ (Int.tmod i_26 32)) ((some (q_27.set (Int.toNat (IntKind.i64.wrap (Int.tdiv i_26 32))) (IntKind.u32.wrap (e_76 + (ishl .u32 1 (Int.tmod i_26 32)))))).bind fun xs_85 => m_r01_DivMod_J1 i_26 (m_r01_DivMod_L1 N p0_a r_1 n_19) r_67.1 xs_85)) else (m_r01_DivMod_J1 i_26 (m_r01_DivMod_L1 N p0_a r_1 n_19) r_54 q_27)) else ((m_r01_Norm N q_27).bind fun r_87 => some (r_87, r_22, 0))
termination_by structural x => x
def m_r01_DivMod (N : Nat) (p0_a : (List Int)) (p1_b : (List Int)) : Option ((List Int) × (List Int) × Int) :=
  (m_r01_Norm N p1_b).bind fun r_1 => if (decide ((r_1.length : Int) = 0)) = true then none else ((m_r01_Bits N p0_a).bind fun r_9 => chk ((Int.toNat (IntKind.i64.wrap (Int.tdiv (IntKind.i64.wrap (r_9 + 31)) 32))) * 4 ≤ 281474976710656 ∧ (Int.toNat (IntKind.i64.wrap (Int.tdiv (IntKind.i64.wrap (r_9 + 31)) 32))) ≤ maxLen ∧ 0 ≤ (IntKind.i64.wrap (Int.tdiv (IntKind.i64.wrap (r_9 + 31)) 32))) (m_r01_DivMod_L1 N p0_a r_1 N ([] : List Int) (IntKind.i64.wrap (r_9 - 1)) (List.replicate (Int.toNat (IntKind.i64.wrap (Int.tdiv (IntKind.i64.wrap (r_9 + 31)) 32))) (0 : Int))))
theorem c_r01_DivMod (N : Nat) (c1 : Nat) (c2 : Nat) (col : Col) (w0 : World) (a0 : Option Addr) (cap0 : Nat) (p0_a : (List Int)) (a1 : Option Addr) (cap1 : Nat) (p1_b : (List Int)) (h0 : Sl (Rep.int .u32) col w0 a0 cap0 p0_a) (h1 : Sl (Rep.int .u32) col w0 a1 cap1 p1_b) (r : ((List Int) × (List Int) × Int)) (hm : m_r01_DivMod N p0_a p1_b = some r) :
    Calls Tryz.prog 181 #[(.slice a0 p0_a.length cap0), (.slice a1 p1_b.length cap1)] w0 (fun e w' => ∃ (col' : Col) (ra1 : Option Addr) (rc2 : Nat) (ra4 : Option Addr) (rc5 : Nat), e = .returned (.tuple #[(.slice ra1 r.1.length rc2), (.slice ra4 r.2.1.length rc5), (.int .i64 r.2.2)]) ∧ Grow col w0 col' w' ∧ Own (Rep.int .u32) 114 c1 col' w' ra1 rc2 r.1 ∧ Own (Rep.int .u32) 114 c2 col' w' ra4 rc5 r.2.1) := by
 refine calls_of3 4 5 6 (m := 61) (args := [(.slice a0 p0_a.length cap0), (.slice a1 p1_b.length cap1)]) Tryz.func181 rfl rfl rfl rfl rfl ?_
 rw [m_r01_DivMod.eq_1] at hm
 have hst := St.start col w0
 refine wS (wR ?_)
 refine lA (.slice none (([] : List Int).length) 0) ?_
 refine lA (.slice none (([] : List Int).length) 0) ?_
 refine lA (.int .i64 0) ?_
 refine lN (wS (wR ?_))
 refine lM (.slice a1 p1_b.length cap1) ?_
 obtain ⟨r_1, hr_2, hm⟩ := bS hm
 replace h1 := h1.keep (Stay.start col w0)
 refine lc rfl rfl (r_call1 Tryz.call159 rfl) (c_r01_Norm N 1 (col0 col) _ a1 cap1 p1_b h1 r_1 hr_2) ?_
 rintro _ w_6 ⟨col_8, ra_3, rc_4, rfl, hg_7, rh_5⟩
 refine ⟨_, rfl, ?_⟩
 refine lA (.slice ra_3 r_1.length rc_4) ?_
 refine lN (wS (wS (wR ?_)))
 refine lM (.slice ra_3 r_1.length rc_4) ?_
 refine lV (.int .i64 (r_1.length : Int)) (r_len Tryz.underlying36 rfl) ?_
 refine lV (.bool (decide ((r_1.length : Int) = 0))) (r_eql (r_1.length : Int) 0 rfl rfl) ?_
 refine lN ?_
 replace h0 := (h0.keep (Stay.start col w0)).gr hg_7
 replace hst := hst.grow hg_7
 refine wcond (decide ((r_1.length : Int) = 0)) rfl (fun hb => ?_) (fun hb => ?_)
 ·rw [if_pos hb] at hm
  clear hb
  cases hm
 rw [if_neg (by rw [hb]; decide)] at hm
 clear hb
 refine wK (wS (wR ?_))
 refine lM (.slice a0 p0_a.length cap0) ?_
 obtain ⟨r_9, hr_10, hm⟩ := bS hm
 refine lc rfl rfl (r_call1 Tryz.call194 rfl) (c_r01_Bits N col_8 _ a0 cap0 p0_a h0 r_9 hr_10) ?_
 rintro _ w_11 ⟨rfl, hg_12⟩
 refine ⟨_, rfl, ?_⟩
 replace hg_12 : Grow col_8 w_6 col_8 w_11 := .of_below hg_12
 refine lA (.int .i64 r_9) ?_
 refine lN (wS (wR ?_))
 refine lM (.int .i64 r_9) ?_
 refine lV (.int .i64 (IntKind.i64.wrap (r_9 + 31))) (r_add r_9 31 rfl rfl) ?_
 refine lV (.int .i64 (IntKind.i64.wrap (Int.tdiv (IntKind.i64.wrap (r_9 + 31)) 32))) (r_quo (IntKind.i64.wrap (r_9 + 31)) 32 rfl rfl (by decide)) ?_
 obtain ⟨hb_13, hm⟩ := cS hm
 refine l_make (col := col_8) (w := w_11) (r := (Rep.int .u32)) (n := (Int.toNat (IntKind.i64.wrap (Int.tdiv (IntKind.i64.wrap (r_9 + 31)) 32)))) (x0 := 0) 2 rfl Tryz.underlying36 Tryz.t114 rfl rfl rfl rfl rfl (congrArg (Value.int _) (Int.toNat_of_nonneg hb_13.2.2).symm) (congrArg (Value.int _) (Int.toNat_of_nonneg hb_13.2.2).symm) hb_13.1 hb_13.2.1 (rd_int .u32 0) ?_
 intro a_14 w_15 col_16 hg_17 h_18
 refine lA (.slice a_14 ((List.replicate (Int.toNat (IntKind.i64.wrap (Int.tdiv (IntKind.i64.wrap (r_9 + 31)) 32))) (0 : Int)).length) (Int.toNat (IntKind.i64.wrap (Int.tdiv (IntKind.i64.wrap (r_9 + 31)) 32)))) ?_
 refine lN (wS (wR ?_))
 refine lA (.slice none (([] : List Int).length) 0) ?_
 refine lN (wS (wS (wR ?_)))
 refine lM (.int .i64 r_9) ?_
 refine lV (.int .i64 (IntKind.i64.wrap (r_9 - 1))) (r_sub r_9 1 rfl rfl) ?_
 refine lA (.int .i64 (IntKind.i64.wrap (r_9 - 1))) ?_
 refine lN (wB ?_)
 replace h0 := (h0.gr hg_12).gr hg_17
 replace rh_5 := (rh_5.gr hg_12).gr hg_17
 replace hst := (hst.grow hg_12).grow hg_17
 refine wloop (fun n f w_20 => ∃ (col_21 : Col) (a_23 : Option Addr) (cap_24 : Nat) (r_22 : List Int) (i_26 : Int) (a_28 : Option Addr) (cap_29 : Nat) (q_27 : List Int) (n_19 : Nat), n_19 = n ∧ m_r01_DivMod_L1 N p0_a r_1 n_19 r_22 i_26 q_27 = some r ∧ St w0 (col0 col) col_21 w_20 ∧ Sl (Rep.int .u32) col_21 w_20 a0 cap0 p0_a ∧ Own (Rep.int .u32) 114 3 col_21 w_20 a_23 cap_24 r_22 ∧ Own (Rep.int .u32) 114 1 col_21 w_20 ra_3 rc_4 r_1 ∧ Own (Rep.int .u32) 114 2 col_21 w_20 a_28 cap_29 q_27 ∧ f 0 = (.slice a0 p0_a.length cap0) ∧ f 10 = (.slice a_23 r_22.length cap_24) ∧ f 11 = (.int .i64 i_26) ∧ f 7 = (.slice ra_3 r_1.length rc_4) ∧ f 9 = (.slice a_28 q_27.length cap_29) ∧ f 1000000 = (enc [])) N ⟨col_16, none, 0, ([] : List Int), (IntKind.i64.wrap (r_9 - 1)), a_14, (Int.toNat (IntKind.i64.wrap (Int.tdiv (IntKind.i64.wrap (r_9 + 31)) 32))), (List.replicate (Int.toNat (IntKind.i64.wrap (Int.tdiv (IntKind.i64.wrap (r_9 + 31)) 32))) (0 : Int)), N, rfl, hm, hst, h0, Own.nil, rh_5, h_18, rfl, rfl, rfl, rfl, rfl, rfl⟩ ?_
 clear hm; intro n f w_20 hI
 obtain ⟨col_21, a_23, cap_24, r_22, i_26, a_28, cap_29, q_27, n_19, hn, hm, hst, h0, h_25, rh_5, h_30, hs0, hs10, hs11, hs7, hs9, hs1000000⟩ := hI
 subst hn
 refine .lD 0 hs0 ?_
 refine .lD 10 hs10 ?_
 refine .lD 11 hs11 ?_
 refine .lD 7 hs7 ?_
 refine .lD 9 hs9 ?_
 refine .lD 1000000 hs1000000 ?_
 clear hs0 hs10 hs11 hs7 hs9 hs1000000
 cases n_19 with
 | zero => rw [m_r01_DivMod_L1.eq_1] at hm; cases hm
 | succ n_19 =>
  rw [m_r01_DivMod_L1.eq_2] at hm
  refine wS (wS (wR ?_))
  refine lM (.int .i64 i_26) ?_
  refine lV (.bool (decide (0 ≤ i_26))) (r_geq i_26 0 rfl rfl) ?_
  refine lN ?_
  refine wcond (decide (0 ≤ i_26)) rfl (fun hb => ?_) (fun hb => ?_)
  ·rw [if_pos hb] at hm
   clear hb
   refine wK (wS ?_)
   refine Wp.cut (fun f w_31 => ∃ (col_32 : Col) (a_34 : Option Addr) (cap_35 : Nat) (r_33 : List Int) (a_38 : Option Addr) (cap_39 : Nat) (q_37 : List Int), m_r01_DivMod_J1 i_26 (m_r01_DivMod_L1 N p0_a r_1 n_19) r_33 q_37 = some r ∧ St w0 (col0 col) col_32 w_31 ∧ Sl (Rep.int .u32) col_32 w_31 a0 cap0 p0_a ∧ Own (Rep.int .u32) 114 3 col_32 w_31 a_34 cap_35 r_33 ∧ Own (Rep.int .u32) 114 1 col_32 w_31 ra_3 rc_4 r_1 ∧ Own (Rep.int .u32) 114 2 col_32 w_31 a_38 cap_39 q_37 ∧ f 0 = (.slice a0 p0_a.length cap0) ∧ f 10 = (.slice a_34 r_33.length cap_35) ∧ f 11 = (.int .i64 i_26) ∧ f 7 = (.slice ra_3 r_1.length rc_4) ∧ f 9 = (.slice a_38 q_37.length cap_39) ∧ f 1000000 = (enc [])) ?_ ?_
   ·intro f w_31 hJ
    obtain ⟨col_32, a_34, cap_35, r_33, a_38, cap_39, q_37, hm, hst, h0, h_36, rh_5, h_40, hs0, hs10, hs11, hs7, hs9, hs1000000⟩ := hJ
    rw [m_r01_DivMod_J1.eq_1] at hm
    refine .lD 0 hs0 ?_
    refine .lD 10 hs10 ?_
    refine .lD 11 hs11 ?_
    refine .lD 7 hs7 ?_
    refine .lD 9 hs9 ?_
    refine .lD 1000000 hs1000000 ?_
    clear hs0 hs10 hs11 hs7 hs9 hs1000000
    refine wR ?_
    refine lM (.int .i64 i_26) ?_
    refine lV (.int .i64 (IntKind.i64.wrap (i_26 - 1))) (r_sub i_26 1 rfl rfl) ?_
    refine lA (.int .i64 (IntKind.i64.wrap (i_26 - 1))) ?_
    refine lN ?_
    exact ⟨n_19, by omega, ⟨col_32, a_34, cap_35, r_33, (IntKind.i64.wrap (i_26 - 1)), a_38, cap_39, q_37, n_19, rfl, hm, hst, h0, h_36, rh_5, h_40, rfl, rfl, rfl, rfl, rfl, rfl⟩⟩
   refine wB (wS (wR ?_))
   refine lM (.slice a_23 r_22.length cap_24) ?_
   refine lM (.slice a0 p0_a.length cap0) ?_
   refine lM (.int .i64 i_26) ?_
   obtain ⟨r_41, hr_42, hm⟩ := bS hm
   refine lc rfl rfl (r_call2 Tryz.call195 rfl rfl) (c_r01_Bit col_21 _ a0 cap0 p0_a i_26 h0 r_41 hr_42) ?_
   rintro _ w_43 ⟨rfl, hg_44⟩
   refine ⟨_, rfl, ?_⟩
   replace hg_44 : Grow col_21 w_20 col_21 w_43 := .of_below hg_44
   obtain ⟨r_45, hr_46, hm⟩ := bS hm
   replace h_25 := h_25.gr hg_44
   refine lc rfl rfl (r_call2 Tryz.call193 rfl rfl) (c_r01_double N 4 (frC 3 col_21) _ a_23 cap_24 r_22 r_41 (h_25.toSlF (Froz.int .u32)) r_45 hr_46) ?_
   rintro _ w_50 ⟨col_52, ra_47, rc_48, rfl, hg_51, rh_49⟩
   refine ⟨_, rfl, ?_⟩
   replace rh_49 := rh_49.thaw (flat_int .u32) hg_51 ((Fz.refl (col := col_21)).froz 3) (by decide)
   replace hg_51 := hg_51.thawR (col := col_21)
   generalize colR w_43.heap.size col_21 col_52 = col_53 at *
   obtain ⟨r_54, hr_55, hm⟩ := bS hm
   refine lc rfl rfl (r_call1 Tryz.call159 rfl) (c_r01_Norm N 5 (frC 4 col_53) _ ra_47 rc_48 r_45 (rh_49.toSlF (Froz.int .u32)) r_54 hr_55) ?_
   rintro _ w_59 ⟨col_61, ra_56, rc_57, rfl, hg_60, rh_58⟩
   refine ⟨_, rfl, ?_⟩
   replace rh_58 := rh_58.thaw (flat_int .u32) hg_60 ((Fz.refl (col := col_53)).froz 4) (by decide)
   replace hg_60 := hg_60.thawR (col := col_53)
   generalize colR w_50.heap.size col_53 col_61 = col_62 at *
   refine lA (.slice ra_56 r_54.length rc_57) ?_
   refine lN (wS (wR ?_))
   refine lM (.slice ra_56 r_54.length rc_57) ?_
   refine lM (.slice ra_3 r_1.length rc_4) ?_
   obtain ⟨r_63, hr_64, hm⟩ := bS hm
   replace rh_5 := ((rh_5.gr hg_44).gr hg_51).gr hg_60
   refine lc rfl rfl (r_call2 Tryz.call192 rfl rfl) (c_r01_Cmp N (frC 1 (frC 5 col_62)) _ ra_56 rc_57 r_54 ra_3 rc_4 r_1 ((rh_58.toSlF (Froz.int .u32)).froz 1) ((rh_5.froz 5 (by decide)).toSlF (Froz.int .u32)) r_63 hr_64) ?_
   rintro _ w_65 ⟨rfl, hg_66⟩
   refine ⟨_, rfl, ?_⟩
   replace hg_66 : Grow col_62 w_59 col_62 w_65 := .of_below hg_66
   refine lV (.bool (decide (0 ≤ r_63))) (r_geq r_63 0 rfl rfl) ?_
   refine lN ?_
   replace h0 := (((h0.gr hg_44).gr hg_51).gr hg_60).gr hg_66
   replace h_30 := (((h_30.gr hg_44).gr hg_51).gr hg_60).gr hg_66
   replace hst := (((hst.grow hg_44).grow hg_51).grow hg_60).grow hg_66
   replace rh_5 := rh_5.gr hg_66
   replace rh_58 := rh_58.gr hg_66
   refine wcond (decide (0 ≤ r_63)) rfl (fun hb => ?_) (fun hb => ?_)
   ·rw [if_pos hb] at hm
    clear hb
    refine wS (wR ?_)
    refine lM (.slice ra_56 r_54.length rc_57) ?_
    refine lM (.slice ra_3 r_1.length rc_4) ?_
    obtain ⟨r_67, hr_68, hm⟩ := bS hm
    refine lc rfl rfl (r_call2 Tryz.call189 rfl rfl) (c_r01_Sub N 6 (frC 1 (frC 5 col_62)) _ ra_56 rc_57 r_54 ra_3 rc_4 r_1 ((rh_58.toSlF (Froz.int .u32)).froz 1) ((rh_5.froz 5 (by decide)).toSlF (Froz.int .u32)) r_67 hr_68) ?_
    rintro _ w_72 ⟨col_74, ra_69, rc_70, rfl, hg_73, rh_71⟩
    refine ⟨_, rfl, ?_⟩
    replace rh_71 := rh_71.thaw (flat_int .u32) hg_73 (((Fz.refl (col := col_62)).froz 5).froz 1) (by decide)
    replace hg_73 := hg_73.thawR (col := col_62)
    generalize colR w_65.heap.size col_62 col_74 = col_75 at *
    refine lM (.tuple #[(.slice ra_69 r_67.1.length rc_70), (.bool r_67.2)]) ?_
    refine lV (.slice ra_69 r_67.1.length rc_70) (r_extract rfl rfl) ?_
    refine lV (.bool r_67.2) (r_extract rfl rfl) ?_
    refine lA (.slice ra_69 r_67.1.length rc_70) ?_
    refine lN ?_
    refine wmix (col := col_75) [(0, 1), (1, 1), (2, 1), (3, 1), (4, 1), (5, 1), (6, 1), (7, 0), (8, 1), (9, 1), (10, 1), (11, 1), (12, 1), (13, 2)] (by kernel_rfl) (by kernel_rfl) ?_
    refine xu (v := (.slice a_28 q_27.length cap_29)) rfl rfl (fun _ => r_move rfl) ?_
    refine xu (v := (.int .i64 i_26)) rfl rfl (fun _ => r_move rfl) ?_
    refine xu (v := (.int .i64 (IntKind.i64.wrap (Int.tdiv i_26 32)))) rfl rfl (fun _ => r_quo i_26 32 rfl rfl (by decide)) ?_
    refine xu (v := (.slice a_28 q_27.length cap_29)) rfl rfl (fun _ => r_move rfl) ?_
    refine xu (v := (.int .i64 i_26)) rfl rfl (fun _ => r_move rfl) ?_
    refine xu (v := (.int .i64 (IntKind.i64.wrap (Int.tdiv i_26 32)))) rfl rfl (fun _ => r_quo i_26 32 rfl rfl (by decide)) ?_
    obtain ⟨e_76, hj_77, hm⟩ := bS hm
    replace h_30 := h_30.gr hg_73
    refine xu (v := (sptr a_28 (Int.toNat (IntKind.i64.wrap (Int.tdiv i_26 32)) * 1))) rfl rfl (fun _ => r_idx Tryz.underlying36 Tryz.sizeOf114 rfl rfl (at?_some hj_77).1 (at?_some hj_77).2.1 (h_30.addr hj_77)) ?_
    refine xv (v := (.int .u32 e_76)) rfl rfl (fun _ hC => r_ld Tryz.isAgg114 rfl ((h_30.gr (Grow.of_below (col := col_75) hC.below)).atInt hj_77)) ?_
    refine xu (v := (.int .i64 i_26)) rfl rfl (fun _ => r_move rfl) ?_
    refine xu (v := (.int .i64 (Int.tmod i_26 32))) rfl rfl (fun _ => r_rem i_26 32 rfl rfl (by decide)) ?_
    obtain ⟨h0_78, hm⟩ := cS hm
    refine xu (v := (.int .u32 (ishl .u32 1 (Int.tmod i_26 32)))) rfl rfl (fun _ => r_shl 1 (Int.tmod i_26 32) rfl rfl h0_78) ?_
    refine xu (v := (.int .u32 (IntKind.u32.wrap (e_76 + (ishl .u32 1 (Int.tmod i_26 32)))))) rfl rfl (fun _ => r_add e_76 (ishl .u32 1 (Int.tmod i_26 32)) rfl rfl) ?_
    refine xu (v := (sptr a_28 (Int.toNat (IntKind.i64.wrap (Int.tdiv i_26 32)) * 1))) rfl rfl (fun _ => r_idx Tryz.underlying36 Tryz.sizeOf114 rfl rfl (at?_some hj_77).1 (at?_some hj_77).2.1 (h_30.addr hj_77)) ?_
    refine xe rfl rfl ?_
    intro w_79 hC0
    have hC : Grow col_75 w_72 col_75 w_79 := .of_below hC0.below
    obtain ⟨xs_85, hz_84, hm⟩ := bS hm
    have hz_84 : xs_85 = q_27.set (Int.toNat (IntKind.i64.wrap (Int.tdiv i_26 32))) (IntKind.u32.wrap (e_76 + (ishl .u32 1 (Int.tmod i_26 32)))) := (Option.some.inj hz_84).symm
    replace h_30 := h_30.gr hC
    refine l_store (x1 := IntKind.u32.wrap (e_76 + (ishl .u32 1 (Int.tmod i_26 32)))) (v := (.int .u32 (IntKind.u32.wrap (e_76 + (ishl .u32 1 (Int.tmod i_26 32)))))) h_30 hj_77 rfl Tryz.sizeOf114 (rd_int .u32 (IntKind.u32.wrap (e_76 + (ishl .u32 1 (Int.tmod i_26 32))))) rfl rfl (by decide) ?_
    intro w_80 hk_81 hs_82 h_83
    rw [← hz_84] at h_83
    refine .ld (d := 9) (v := (.slice a_28 xs_85.length cap_29)) (congrArg (fun n => Value.slice a_28 n cap_29) (show q_27.length = xs_85.length by rw [hz_84, List.length_set])) ?_
    clear h_30
    refine lN ⟨fun w' => Grow col_75 w_80 col_75 w', Grow.refl _ _, fun h => absurd h (by decide), ?_⟩
    refine xnil ?_
    replace h0 := ((h0.gr hg_73).gr hC).kp hk_81
    replace rh_5 := ((rh_5.gr hg_73).gr hC).kp hk_81
    replace hst := ((hst.grow hg_73).grow hC).kp hk_81 hs_82
    replace rh_71 := (rh_71.gr hC).kp hk_81
    intro w_86 hC
    replace hC : Grow col_75 w_80 col_75 w_86 := .of_below hC.below
    replace h0 := h0.gr hC
    replace h0 := h0.recol 6 3 (by decide)
    replace rh_5 := rh_5.gr hC
    replace rh_5 := rh_5.recol 6 3 (by decide)
    replace h_83 := h_83.gr hC
    replace h_83 := h_83.recol 6 3 (by decide)
    replace rh_71 := rh_71.gr hC
    replace rh_71 := rh_71.recolSelf 3 (by decide)
    replace hst := hst.grow hC
    replace hst := hst.recol 6 3 (by decide) (by decide)
    exact ⟨(rcC 6 3 col_75), ra_69, rc_70, r_67.1, a_28, cap_29, xs_85, hm, hst, h0, rh_71, rh_5, h_83, rfl, rfl, rfl, rfl, rfl, rfl⟩
   rw [if_neg (by rw [hb]; decide)] at hm
   clear hb
   refine wK ?_
   replace h0 := h0.recol 5 3 (by decide)
   replace rh_5 := rh_5.recol 5 3 (by decide)
   replace h_30 := h_30.recol 5 3 (by decide)
   replace rh_58 := rh_58.recolSelf 3 (by decide)
   replace hst := hst.recol 5 3 (by decide) (by decide)
   exact ⟨(rcC 5 3 col_62), ra_56, rc_57, r_54, a_28, cap_29, q_27, hm, hst, h0, rh_58, rh_5, h_30, rfl, rfl, rfl, rfl, rfl, rfl⟩
  rw [if_neg (by rw [hb]; decide)] at hm
  clear hb
  refine wexit (inB_hit ?_)
  refine wS (wR ?_)
  refine lM (.slice a_28 q_27.length cap_29) ?_
  obtain ⟨r_87, hr_88, hm⟩ := bS hm
  refine lc rfl rfl (r_call1 Tryz.call159 rfl) (c_r01_Norm N 7 (frC 2 col_21) _ a_28 cap_29 q_27 (h_30.toSlF (Froz.int .u32)) r_87 hr_88) ?_
  rintro _ w_92 ⟨col_94, ra_89, rc_90, rfl, hg_93, rh_91⟩
  refine ⟨_, rfl, ?_⟩
  replace rh_91 := rh_91.thaw (flat_int .u32) hg_93 ((Fz.refl (col := col_21)).froz 2) (by decide)
  replace hg_93 := hg_93.thawR (col := col_21)
  generalize colR w_20.heap.size col_21 col_94 = col_95 at *
  refine lM (.slice a_23 r_22.length cap_24) ?_
  refine lA (.slice ra_89 r_87.length rc_90) ?_
  refine lA (.slice a_23 r_22.length cap_24) ?_
  refine lA (.int .i64 0) ?_
  refine lN ?_
  refine wret ?_
  cases hm
  replace h_25 := h_25.gr hg_93
  replace hst := hst.grow hg_93
  exact ⟨rfl, colF w0.heap.size col col_95 (fun n => bif Nat.beq n 7 then c1 else bif Nat.beq n 3 then c2 else 0), ra_89, rc_90, a_23, cap_24, rfl, hst.fin (fun n => bif Nat.beq n 7 then c1 else bif Nat.beq n 3 then c2 else 0), hst.finOwn (g := (fun n => bif Nat.beq n 7 then c1 else bif Nat.beq n 3 then c2 else 0)) rfl rh_91 (by decide) (by decide) rfl, hst.finOwn (g := (fun n => bif Nat.beq n 7 then c1 else bif Nat.beq n 3 then c2 else 0)) rfl h_25 (by decide) (by decide) rfl⟩
def m_r03_lowest (N : Nat) (p0_num : (Bool × (List Int))) (p1_d : (List Int)) : Option ((Bool × (List Int)) × (List Int)) :=
  (m_r01_Gcd N p0_num.2 p1_d).bind fun r_11 => (m_r01_DivMod N p0_num.2 r_11).bind fun r_19 => (m_r01_DivMod N p1_d r_11).bind fun r_31 => (m_r02_Norm N (p0_num.1, r_19.1)).bind fun r_43 => (m_r01_Norm N r_31.1).bind fun r_52 => some ((r_43.1, r_43.2), r_52)
theorem c_r03_lowest (N : Nat) (c1 : Nat) (c2 : Nat) (col : Col) (w0 : World) (a0_0 : Option Addr) (cap0_0 : Nat) (p0_num : (Bool × (List Int))) (a1 : Option Addr) (cap1 : Nat) (p1_d : (List Int)) (h0_0 : Sl (Rep.int .u32) col w0 a0_0 cap0_0 p0_num.2) (h1 : Sl (Rep.int .u32) col w0 a1 cap1 p1_d) (r : ((Bool × (List Int)) × (List Int))) (hm : m_r03_lowest N p0_num p1_d = some r) :
    Calls Tryz.prog 161 #[(.agg #[(.bool p0_num.1), (.slice a0_0 p0_num.2.length cap0_0)]), (.slice a1 p1_d.length cap1)] w0 (fun e w' => ∃ (col' : Col) (ra1 : Option Addr) (rc2 : Nat) (ra4 : Option Addr) (rc5 : Nat), e = .returned ((.agg #[(.bool r.1.1), (.slice ra1 r.1.2.length rc2), (.slice ra4 r.2.length rc5)])) ∧ Grow col w0 col' w' ∧ Own (Rep.int .u32) 114 c1 col' w' ra1 rc2 r.1.2 ∧ Own (Rep.int .u32) 114 c2 col' w' ra4 rc5 r.2) := by
 refine calls_ofR (m := 39) (args := [(.agg #[(.bool p0_num.1), (.slice a0_0 p0_num.2.length cap0_0)]), (.slice a1 p1_d.length cap1)]) Tryz.func161 rfl rfl rfl ?_
 rw [m_r03_lowest.eq_1] at hm
 have hst := St.start col w0
 refine wS (wR ?_)
 refine l_box (col := (col0 col)) (v := (.agg #[(.bool p0_num.1), (.slice a0_0 p0_num.2.length cap0_0)])) 1 rfl rfl ?_
 intro g_1 w_2 col_3 hg_4 hb_5
 replace hb_5 : Box 38 1 col_3 w_2 g_1 #[(.bool p0_num.1), (.slice a0_0 p0_num.2.length cap0_0)] := hb_5
 refine l_alloc (col := col_3) (v := (.agg #[(.bool false), (.slice none (([] : List Int).length) 0), (.slice none (([] : List Int).length) 0)])) 2 rfl Tryz.zeroValue40 ?_
 intro g_6 w_7 col_8 hg_9 hb_10
 replace hb_10 : Box 40 2 col_8 w_7 g_6 #[(.bool false), (.slice none (([] : List Int).length) 0), (.slice none (([] : List Int).length) 0)] := hb_10
 refine lN (wS (wR ?_))
 refine lV (.pointer ((some (⟨g_1, 0, none⟩ : Addr)).map (·.add 1))) (rF (sz := 1) (off := 1) Tryz.underlying38 rfl Tryz.sizeOf36 (by decide) rfl rfl ⟨_, _, rfl⟩) ?_
 replace hb_5 := hb_5.gr hg_9
 refine lV (.slice a0_0 p0_num.2.length cap0_0) (r_ld Tryz.isAgg36 rfl ((hb_5.atN).nth (q := 1) (v := (.slice a0_0 p0_num.2.length cap0_0)) rfl)) ?_
 refine lM (.slice a1 p1_d.length cap1) ?_
 obtain ⟨r_11, hr_12, hm⟩ := bS hm
 replace h0_0 := ((h0_0.keep (Stay.start col w0)).gr hg_4).gr hg_9
 replace h1 := ((h1.keep (Stay.start col w0)).gr hg_4).gr hg_9
 refine lc rfl rfl (r_call2 Tryz.call180 rfl rfl) (c_r01_Gcd N 3 col_8 _ a0_0 cap0_0 p0_num.2 a1 cap1 p1_d h0_0 h1 r_11 hr_12) ?_
 rintro _ w_16 ⟨col_18, ra_13, rc_14, rfl, hg_17, rh_15⟩
 refine ⟨_, rfl, ?_⟩
 refine lA (.slice ra_13 r_11.length rc_14) ?_
 refine lN (wS (wR ?_))
 refine lV (.pointer ((some (⟨g_1, 0, none⟩ : Addr)).map (·.add 1))) (rF (sz := 1) (off := 1) Tryz.underlying38 rfl Tryz.sizeOf36 (by decide) rfl rfl ⟨_, _, rfl⟩) ?_
 replace hb_5 := hb_5.gr hg_17
 refine lV (.slice a0_0 p0_num.2.length cap0_0) (r_ld Tryz.isAgg36 rfl ((hb_5.atN).nth (q := 1) (v := (.slice a0_0 p0_num.2.length cap0_0)) rfl)) ?_
 refine lM (.slice ra_13 r_11.length rc_14) ?_
 obtain ⟨r_19, hr_20, hm⟩ := bS hm
 replace h0_0 := h0_0.gr hg_17
 refine lc rfl rfl (r_call2 Tryz.call181 rfl rfl) (c_r01_DivMod N 4 5 (frC 3 col_18) _ a0_0 cap0_0 p0_num.2 ra_13 rc_14 r_11 (h0_0.froz 3) (rh_15.toSlF (Froz.int .u32)) r_19 hr_20) ?_
 rintro _ w_27 ⟨col_29, ra_21, rc_22, ra_24, rc_25, rfl, hg_28, rh_23, rh_26⟩
 refine ⟨_, rfl, ?_⟩
 replace rh_23 := rh_23.thaw (flat_int .u32) hg_28 ((Fz.refl (col := col_18)).froz 3) (by decide)
 replace hg_28 := hg_28.thawR (col := col_18)
 generalize colR w_16.heap.size col_18 col_29 = col_30 at *
 refine lM (.tuple #[(.slice ra_21 r_19.1.length rc_22), (.slice ra_24 r_19.2.1.length rc_25), (.int .i64 r_19.2.2)]) ?_
 refine lV (.slice ra_21 r_19.1.length rc_22) (r_extract rfl rfl) ?_
 refine lV (.slice ra_24 r_19.2.1.length rc_25) (r_extract rfl rfl) ?_
 refine lV (.int .i64 r_19.2.2) (r_extract rfl rfl) ?_
 refine lA (.slice ra_21 r_19.1.length rc_22) ?_
 refine lA (.slice ra_24 r_19.2.1.length rc_25) ?_
 refine lA (.int .i64 r_19.2.2) ?_
 refine lN (wS (wR ?_))
 refine lM (.slice a1 p1_d.length cap1) ?_
 refine lM (.slice ra_13 r_11.length rc_14) ?_
 obtain ⟨r_31, hr_32, hm⟩ := bS hm
 replace h1 := (h1.gr hg_17).gr hg_28
 replace rh_15 := rh_15.gr hg_28
 refine lc rfl rfl (r_call2 Tryz.call181 rfl rfl) (c_r01_DivMod N 6 7 (frC 3 col_30) _ a1 cap1 p1_d ra_13 rc_14 r_11 (h1.froz 3) (rh_15.toSlF (Froz.int .u32)) r_31 hr_32) ?_
 rintro _ w_39 ⟨col_41, ra_33, rc_34, ra_36, rc_37, rfl, hg_40, rh_35, rh_38⟩
 refine ⟨_, rfl, ?_⟩
 replace rh_35 := rh_35.thaw (flat_int .u32) hg_40 ((Fz.refl (col := col_30)).froz 3) (by decide)
 replace hg_40 := hg_40.thawR (col := col_30)
 generalize colR w_27.heap.size col_30 col_41 = col_42 at *
 refine lM (.tuple #[(.slice ra_33 r_31.1.length rc_34), (.slice ra_36 r_31.2.1.length rc_37), (.int .i64 r_31.2.2)]) ?_
 refine lV (.slice ra_33 r_31.1.length rc_34) (r_extract rfl rfl) ?_
 refine lV (.slice ra_36 r_31.2.1.length rc_37) (r_extract rfl rfl) ?_
 refine lV (.int .i64 r_31.2.2) (r_extract rfl rfl) ?_
 refine lA (.slice ra_33 r_31.1.length rc_34) ?_
 refine lA (.slice ra_36 r_31.2.1.length rc_37) ?_
 refine lA (.int .i64 r_31.2.2) ?_
 refine lN (wS (wR ?_))
 refine lV (.pointer ((some (⟨g_1, 0, none⟩ : Addr)).map (·.add 0))) (rF (sz := 1) (off := 0) Tryz.underlying38 rfl Tryz.sizeOf4 (by decide) rfl rfl ⟨_, _, rfl⟩) ?_
 replace hb_5 := (hb_5.gr hg_28).gr hg_40
 refine lV (.bool p0_num.1) (r_ld Tryz.isAgg4 rfl ((hb_5.atN).nth (q := 0) (v := (.bool p0_num.1)) rfl)) ?_
 refine lM (.slice ra_21 r_19.1.length rc_22) ?_
 refine lV (.agg #[(.bool p0_num.1), (.slice ra_21 r_19.1.length rc_22)]) (r_build (l := [_, _]) (qs := [(0, 1), (1, 1)]) Tryz.underlying38 Tryz.zeroValue38 ⟨rfl, Tryz.sizeOf4, rfl, Tryz.sizeOf36, trivial⟩ rfl) ?_
 obtain ⟨r_43, hr_44, hm⟩ := bS hm
 replace rh_23 := rh_23.gr hg_40
 refine lc rfl rfl (r_call1 Tryz.call177 rfl) (c_r02_Norm N 8 (frC 4 col_42) _ ra_21 rc_22 (p0_num.1, r_19.1) (rh_23.toSlF (Froz.int .u32)) r_43 hr_44) ?_
 rintro _ w_48 ⟨col_50, ra_45, rc_46, rfl, hg_49, rh_47⟩
 refine ⟨_, rfl, ?_⟩
 replace rh_47 := rh_47.thaw (flat_int .u32) hg_49 ((Fz.refl (col := col_42)).froz 4) (by decide)
 replace hg_49 := hg_49.thawR (col := col_42)
 generalize colR w_39.heap.size col_42 col_50 = col_51 at *
 refine lM (.slice ra_33 r_31.1.length rc_34) ?_
 obtain ⟨r_52, hr_53, hm⟩ := bS hm
 replace rh_35 := rh_35.gr hg_49
 refine lc rfl rfl (r_call1 Tryz.call159 rfl) (c_r01_Norm N 9 (frC 6 col_51) _ ra_33 rc_34 r_31.1 (rh_35.toSlF (Froz.int .u32)) r_52 hr_53) ?_
 rintro _ w_57 ⟨col_59, ra_54, rc_55, rfl, hg_58, rh_56⟩
 refine ⟨_, rfl, ?_⟩
 replace rh_56 := rh_56.thaw (flat_int .u32) hg_58 ((Fz.refl (col := col_51)).froz 6) (by decide)
 replace hg_58 := hg_58.thawR (col := col_51)
 generalize colR w_48.heap.size col_51 col_59 = col_60 at *
 refine lV (.agg #[(.bool r_43.1), (.slice ra_45 r_43.2.length rc_46), (.slice ra_54 r_52.length rc_55)]) (r_build (l := [_, _]) (qs := [(0, 2), (2, 1)]) Tryz.underlying40 Tryz.zeroValue40 ⟨rfl, Tryz.sizeOf38, rfl, Tryz.sizeOf36, trivial⟩ rfl) ?_
 replace hb_10 := ((((hb_10.gr hg_17).gr hg_28).gr hg_40).gr hg_49).gr hg_58
 refine l_bstore (v := (.agg #[(.bool r_43.1), (.slice ra_45 r_43.2.length rc_46), (.slice ra_54 r_52.length rc_55)])) hb_10 Tryz.sizeOf40 rfl rfl (by intro u hu; simp only [Value.cells, List.mem_cons, List.not_mem_nil, or_false] at hu; rcases hu with rfl | rfl | rfl <;> rfl) rfl rfl ?_
 intro w_61 hk_62 hs_63 hb_64
 clear hb_10
 replace hb_64 : Box 40 2 col_60 w_61 g_6 #[(.bool r_43.1), (.slice ra_45 r_43.2.length rc_46), (.slice ra_54 r_52.length rc_55)] := hb_64
 refine lN ?_
 refine wret ?_
 cases hm
 replace hst := (((((((hst.grow hg_4).grow hg_9).grow hg_17).grow hg_28).grow hg_40).grow hg_49).grow hg_58).kp hk_62 hs_63
 replace rh_47 := (rh_47.gr hg_58).kp hk_62
 replace rh_56 := rh_56.kp hk_62
 exact ⟨rfl, _, res_a rfl rfl Tryz.isAgg40 Tryz.sizeOf40 rfl rfl hb_64.atN, colF w0.heap.size col col_60 (fun n => bif Nat.beq n 8 then c1 else bif Nat.beq n 9 then c2 else 0), ra_45, rc_46, ra_54, rc_55, rfl, hst.fin (fun n => bif Nat.beq n 8 then c1 else bif Nat.beq n 9 then c2 else 0), hst.finOwn (g := (fun n => bif Nat.beq n 8 then c1 else bif Nat.beq n 9 then c2 else 0)) rfl rh_47 (by decide) (by decide) rfl, hst.finOwn (g := (fun n => bif Nat.beq n 8 then c1 else bif Nat.beq n 9 then c2 else 0)) rfl rh_56 (by decide) (by decide) rfl⟩
def m_r03_New (N : Nat) (p0_num : (Bool × (List Int))) (p1_d : (Bool × (List Int))) : Option (((Bool × (List Int)) × (List Int)) × Int) :=
  (m_r02_Sign N (p1_d.1, p1_d.2)).bind fun r_16 => if (decide (r_16 = 0)) = true then none else ((m_r03_lowest N (!decide (p0_num.1 = p1_d.1), p0_num.2) p1_d.2).bind fun r_20 => some (((r_20.1.1, r_20.1.2), r_20.2), 0))
theorem c_r03_New (N : Nat) (c1 : Nat) (c2 : Nat) (col : Col) (w0 : World) (a0_0 : Option Addr) (cap0_0 : Nat) (p0_num : (Bool × (List Int))) (a1_0 : Option Addr) (cap1_0 : Nat) (p1_d : (Bool × (List Int))) (h0_0 : Sl (Rep.int .u32) col w0 a0_0 cap0_0 p0_num.2) (h1_0 : Sl (Rep.int .u32) col w0 a1_0 cap1_0 p1_d.2) (r : (((Bool × (List Int)) × (List Int)) × Int)) (hm : m_r03_New N p0_num p1_d = some r) :
    Calls Tryz.prog 136 #[(.agg #[(.bool p0_num.1), (.slice a0_0 p0_num.2.length cap0_0)]), (.agg #[(.bool p1_d.1), (.slice a1_0 p1_d.2.length cap1_0)])] w0 (fun e w' => ∃ (col' : Col) (ra1 : Option Addr) (rc2 : Nat) (ra4 : Option Addr) (rc5 : Nat), e = .returned (.tuple #[(.agg #[(.bool r.1.1.1), (.slice ra1 r.1.1.2.length rc2), (.slice ra4 r.1.2.length rc5)]), (.int .i64 r.2)]) ∧ Grow col w0 col' w' ∧ Own (Rep.int .u32) 114 c1 col' w' ra1 rc2 r.1.1.2 ∧ Own (Rep.int .u32) 114 c2 col' w' ra4 rc5 r.1.2) := by
 refine calls_ofR (m := 21) (args := [(.agg #[(.bool p0_num.1), (.slice a0_0 p0_num.2.length cap0_0)]), (.agg #[(.bool p1_d.1), (.slice a1_0 p1_d.2.length cap1_0)])]) Tryz.func136 rfl rfl rfl ?_
 rw [m_r03_New.eq_1] at hm
 have hst := St.start col w0
 refine wS (wR ?_)
 refine l_box (col := (col0 col)) (v := (.agg #[(.bool p0_num.1), (.slice a0_0 p0_num.2.length cap0_0)])) 1 rfl rfl ?_
 intro g_1 w_2 col_3 hg_4 hb_5
 replace hb_5 : Box 38 1 col_3 w_2 g_1 #[(.bool p0_num.1), (.slice a0_0 p0_num.2.length cap0_0)] := hb_5
 refine l_box (col := col_3) (v := (.agg #[(.bool p1_d.1), (.slice a1_0 p1_d.2.length cap1_0)])) 2 rfl rfl ?_
 intro g_6 w_7 col_8 hg_9 hb_10
 replace hb_10 : Box 38 2 col_8 w_7 g_6 #[(.bool p1_d.1), (.slice a1_0 p1_d.2.length cap1_0)] := hb_10
 refine l_alloc (col := col_8) (v := (.agg #[(.bool false), (.slice none (([] : List Int).length) 0), (.slice none (([] : List Int).length) 0)])) 3 rfl Tryz.zeroValue40 ?_
 intro g_11 w_12 col_13 hg_14 hb_15
 replace hb_15 : Box 40 3 col_13 w_12 g_11 #[(.bool false), (.slice none (([] : List Int).length) 0), (.slice none (([] : List Int).length) 0)] := hb_15
 refine lA (.int .i64 0) ?_
 refine lN (wS (wS (wR ?_)))
 replace hb_10 := hb_10.gr hg_14
 refine lV (.agg #[(.bool p1_d.1), (.slice a1_0 p1_d.2.length cap1_0)]) (r_ldN Tryz.isAgg38 Tryz.sizeOf38 rfl rfl hb_10.atN) ?_
 obtain ⟨r_16, hr_17, hm⟩ := bS hm
 replace h1_0 := (((h1_0.keep (Stay.start col w0)).gr hg_4).gr hg_9).gr hg_14
 refine lc rfl rfl (r_call1 Tryz.call155 rfl) (c_r02_Sign N col_13 _ a1_0 cap1_0 (p1_d.1, p1_d.2) h1_0 r_16 hr_17) ?_
 rintro _ w_18 ⟨rfl, hg_19⟩
 refine ⟨_, rfl, ?_⟩
 replace hg_19 : Grow col_13 w_12 col_13 w_18 := .of_below hg_19
 refine lV (.bool (decide (r_16 = 0))) (r_eql r_16 0 rfl rfl) ?_
 refine lN ?_
 replace h0_0 := ((((h0_0.keep (Stay.start col w0)).gr hg_4).gr hg_9).gr hg_14).gr hg_19
 replace hst := (((hst.grow hg_4).grow hg_9).grow hg_14).grow hg_19
 replace hb_5 := ((hb_5.gr hg_9).gr hg_14).gr hg_19
 replace h1_0 := h1_0.gr hg_19
 replace hb_10 := hb_10.gr hg_19
 replace hb_15 := hb_15.gr hg_19
 refine wcond (decide (r_16 = 0)) rfl (fun hb => ?_) (fun hb => ?_)
 ·rw [if_pos hb] at hm
  clear hb
  cases hm
 rw [if_neg (by rw [hb]; decide)] at hm
 clear hb
 refine wK (wS (wR ?_))
 refine lV (.pointer ((some (⟨g_1, 0, none⟩ : Addr)).map (·.add 0))) (rF (sz := 1) (off := 0) Tryz.underlying38 rfl Tryz.sizeOf4 (by decide) rfl rfl ⟨_, _, rfl⟩) ?_
 refine lV (.bool p0_num.1) (r_ld Tryz.isAgg4 rfl ((hb_5.atN).nth (q := 0) (v := (.bool p0_num.1)) rfl)) ?_
 refine lV (.pointer ((some (⟨g_6, 0, none⟩ : Addr)).map (·.add 0))) (rF (sz := 1) (off := 0) Tryz.underlying38 rfl Tryz.sizeOf4 (by decide) rfl rfl ⟨_, _, rfl⟩) ?_
 refine lV (.bool p1_d.1) (r_ld Tryz.isAgg4 rfl ((hb_10.atN).nth (q := 0) (v := (.bool p1_d.1)) rfl)) ?_
 refine lV (.bool (!decide (p0_num.1 = p1_d.1))) (r_neqB p0_num.1 p1_d.1 Tryz.underlying4 rfl rfl) ?_
 refine lV (.pointer ((some (⟨g_1, 0, none⟩ : Addr)).map (·.add 1))) (rF (sz := 1) (off := 1) Tryz.underlying38 rfl Tryz.sizeOf36 (by decide) rfl rfl ⟨_, _, rfl⟩) ?_
 refine lV (.slice a0_0 p0_num.2.length cap0_0) (r_ld Tryz.isAgg36 rfl ((hb_5.atN).nth (q := 1) (v := (.slice a0_0 p0_num.2.length cap0_0)) rfl)) ?_
 refine lV (.agg #[(.bool (!decide (p0_num.1 = p1_d.1))), (.slice a0_0 p0_num.2.length cap0_0)]) (r_build (l := [_, _]) (qs := [(0, 1), (1, 1)]) Tryz.underlying38 Tryz.zeroValue38 ⟨rfl, Tryz.sizeOf4, rfl, Tryz.sizeOf36, trivial⟩ rfl) ?_
 refine lV (.pointer ((some (⟨g_6, 0, none⟩ : Addr)).map (·.add 1))) (rF (sz := 1) (off := 1) Tryz.underlying38 rfl Tryz.sizeOf36 (by decide) rfl rfl ⟨_, _, rfl⟩) ?_
 refine lV (.slice a1_0 p1_d.2.length cap1_0) (r_ld Tryz.isAgg36 rfl ((hb_10.atN).nth (q := 1) (v := (.slice a1_0 p1_d.2.length cap1_0)) rfl)) ?_
 obtain ⟨r_20, hr_21, hm⟩ := bS hm
 refine lc rfl rfl (r_call2 Tryz.call161 rfl rfl) (c_r03_lowest N 4 5 col_13 _ a0_0 cap0_0 (!decide (p0_num.1 = p1_d.1), p0_num.2) a1_0 cap1_0 p1_d.2 h0_0 h1_0 r_20 hr_21) ?_
 rintro _ w_28 ⟨col_30, ra_22, rc_23, ra_25, rc_26, rfl, hg_29, rh_24, rh_27⟩
 refine ⟨_, rfl, ?_⟩
 replace hb_15 := hb_15.gr hg_29
 refine l_bstore (v := (.agg #[(.bool r_20.1.1), (.slice ra_22 r_20.1.2.length rc_23), (.slice ra_25 r_20.2.length rc_26)])) hb_15 Tryz.sizeOf40 rfl rfl (by intro u hu; simp only [Value.cells, List.mem_cons, List.not_mem_nil, or_false] at hu; rcases hu with rfl | rfl | rfl <;> rfl) rfl rfl ?_
 intro w_31 hk_32 hs_33 hb_34
 clear hb_15
 replace hb_34 : Box 40 3 col_30 w_31 g_11 #[(.bool r_20.1.1), (.slice ra_22 r_20.1.2.length rc_23), (.slice ra_25 r_20.2.length rc_26)] := hb_34
 refine lA (.int .i64 0) ?_
 refine lN ?_
 refine wret ?_
 cases hm
 replace hst := (hst.grow hg_29).kp hk_32 hs_33
 replace rh_24 := rh_24.kp hk_32
 replace rh_27 := rh_27.kp hk_32
 exact ⟨rfl, _, res_at rfl rfl Tryz.isAgg40 Tryz.sizeOf40 rfl rfl hb_34.atN rfl rfl, colF w0.heap.size col col_30 (fun n => bif Nat.beq n 4 then c1 else bif Nat.beq n 5 then c2 else 0), ra_22, rc_23, ra_25, rc_26, rfl, hst.fin (fun n => bif Nat.beq n 4 then c1 else bif Nat.beq n 5 then c2 else 0), hst.finOwn (g := (fun n => bif Nat.beq n 4 then c1 else bif Nat.beq n 5 then c2 else 0)) rfl rh_24 (by decide) (by decide) rfl, hst.finOwn (g := (fun n => bif Nat.beq n 4 then c1 else bif Nat.beq n 5 then c2 else 0)) rfl rh_27 (by decide) (by decide) rfl⟩
def m_r03_Of (N : Nat) (p0_num : Int) (p1_d : Int) : Option (((Bool × (List Int)) × (List Int)) × Int) :=
  (m_r02_Of N p0_num).bind fun r_6 => (m_r02_Of N p1_d).bind fun r_14 => (m_r03_New N (r_6.1, r_6.2) (r_14.1, r_14.2)).bind fun r_22 => some (((r_22.1.1.1, r_22.1.1.2), r_22.1.2), r_22.2)
theorem c_r03_Of (N : Nat) (c1 : Nat) (c2 : Nat) (col : Col) (w0 : World) (p0_num : Int) (p1_d : Int) (r : (((Bool × (List Int)) × (List Int)) × Int)) (hm : m_r03_Of N p0_num p1_d = some r) :
    Calls Tryz.prog 95 #[(.int .i64 p0_num), (.int .i64 p1_d)] w0 (fun e w' => ∃ (col' : Col) (ra1 : Option Addr) (rc2 : Nat) (ra4 : Option Addr) (rc5 : Nat), e = .returned (.tuple #[(.agg #[(.bool r.1.1.1), (.slice ra1 r.1.1.2.length rc2), (.slice ra4 r.1.2.length rc5)]), (.int .i64 r.2)]) ∧ Grow col w0 col' w' ∧ Own (Rep.int .u32) 114 c1 col' w' ra1 rc2 r.1.1.2 ∧ Own (Rep.int .u32) 114 c2 col' w' ra4 rc5 r.1.2) := by
 refine calls_ofR (m := 13) (args := [(.int .i64 p0_num), (.int .i64 p1_d)]) Tryz.func95 rfl rfl rfl ?_
 rw [m_r03_Of.eq_1] at hm
 have hst := St.start col w0
 refine wS (wR ?_)
 refine l_alloc (col := (col0 col)) (v := (.agg #[(.bool false), (.slice none (([] : List Int).length) 0), (.slice none (([] : List Int).length) 0)])) 1 rfl Tryz.zeroValue40 ?_
 intro g_1 w_2 col_3 hg_4 hb_5
 replace hb_5 : Box 40 1 col_3 w_2 g_1 #[(.bool false), (.slice none (([] : List Int).length) 0), (.slice none (([] : List Int).length) 0)] := hb_5
 refine lA (.int .i64 0) ?_
 refine lN (wS (wR ?_))
 refine lM (.int .i64 p0_num) ?_
 obtain ⟨r_6, hr_7, hm⟩ := bS hm
 refine lc rfl rfl (r_call1 Tryz.call137 rfl) (c_r02_Of N 2 col_3 _ p0_num r_6 hr_7) ?_
 rintro _ w_11 ⟨col_13, ra_8, rc_9, rfl, hg_12, rh_10⟩
 refine ⟨_, rfl, ?_⟩
 refine lM (.int .i64 p1_d) ?_
 obtain ⟨r_14, hr_15, hm⟩ := bS hm
 refine lc rfl rfl (r_call1 Tryz.call137 rfl) (c_r02_Of N 3 col_13 _ p1_d r_14 hr_15) ?_
 rintro _ w_19 ⟨col_21, ra_16, rc_17, rfl, hg_20, rh_18⟩
 refine ⟨_, rfl, ?_⟩
 obtain ⟨r_22, hr_23, hm⟩ := bS hm
 replace rh_10 := rh_10.gr hg_20
 refine lc rfl rfl (r_call2 Tryz.call136 rfl rfl) (c_r03_New N 4 5 (frC 3 (frC 2 col_21)) _ ra_8 rc_9 (r_6.1, r_6.2) ra_16 rc_17 (r_14.1, r_14.2) ((rh_10.toSlF (Froz.int .u32)).froz 3) ((rh_18.froz 2 (by decide)).toSlF (Froz.int .u32)) r_22 hr_23) ?_
 rintro _ w_30 ⟨col_32, ra_24, rc_25, ra_27, rc_28, rfl, hg_31, rh_26, rh_29⟩
 refine ⟨_, rfl, ?_⟩
 replace rh_26 := rh_26.thaw (flat_int .u32) hg_31 (((Fz.refl (col := col_21)).froz 2).froz 3) (by decide)
 replace rh_29 := rh_29.thaw (flat_int .u32) hg_31 (((Fz.refl (col := col_21)).froz 2).froz 3) (by decide)
 replace hg_31 := hg_31.thawR (col := col_21)
 generalize colR w_19.heap.size col_21 col_32 = col_33 at *
 refine lV (.agg #[(.bool r_22.1.1.1), (.slice ra_24 r_22.1.1.2.length rc_25), (.slice ra_27 r_22.1.2.length rc_28)]) (r_extract rfl rfl) ?_
 refine lV (.int .i64 r_22.2) (r_extract rfl rfl) ?_
 replace hb_5 := ((hb_5.gr hg_12).gr hg_20).gr hg_31
 refine l_bstore (v := (.agg #[(.bool r_22.1.1.1), (.slice ra_24 r_22.1.1.2.length rc_25), (.slice ra_27 r_22.1.2.length rc_28)])) hb_5 Tryz.sizeOf40 rfl rfl (by intro u hu; simp only [Value.cells, List.mem_cons, List.not_mem_nil, or_false] at hu; rcases hu with rfl | rfl | rfl <;> rfl) rfl rfl ?_
 intro w_34 hk_35 hs_36 hb_37
 clear hb_5
 replace hb_37 : Box 40 1 col_33 w_34 g_1 #[(.bool r_22.1.1.1), (.slice ra_24 r_22.1.1.2.length rc_25), (.slice ra_27 r_22.1.2.length rc_28)] := hb_37
 refine lA (.int .i64 r_22.2) ?_
 refine lN ?_
 refine wret ?_
 cases hm
 replace hst := ((((hst.grow hg_4).grow hg_12).grow hg_20).grow hg_31).kp hk_35 hs_36
 replace rh_26 := rh_26.kp hk_35
 replace rh_29 := rh_29.kp hk_35
 exact ⟨rfl, _, res_at rfl rfl Tryz.isAgg40 Tryz.sizeOf40 rfl rfl hb_37.atN rfl rfl, colF w0.heap.size col col_33 (fun n => bif Nat.beq n 4 then c1 else bif Nat.beq n 5 then c2 else 0), ra_24, rc_25, ra_27, rc_28, rfl, hst.fin (fun n => bif Nat.beq n 4 then c1 else bif Nat.beq n 5 then c2 else 0), hst.finOwn (g := (fun n => bif Nat.beq n 4 then c1 else bif Nat.beq n 5 then c2 else 0)) rfl rh_26 (by decide) (by decide) rfl, hst.finOwn (g := (fun n => bif Nat.beq n 4 then c1 else bif Nat.beq n 5 then c2 else 0)) rfl rh_29 (by decide) (by decide) rfl⟩
def m_r03_Small (N : Nat) (p0_num : Int) (p1_d : Int) : Option ((Bool × (List Int)) × (List Int)) :=
  (m_r03_Of N p0_num p1_d).bind fun r_6 => some ((r_6.1.1.1, r_6.1.1.2), r_6.1.2)
theorem c_r03_Small (N : Nat) (c1 : Nat) (c2 : Nat) (col : Col) (w0 : World) (p0_num : Int) (p1_d : Int) (r : ((Bool × (List Int)) × (List Int))) (hm : m_r03_Small N p0_num p1_d = some r) :
    Calls Tryz.prog 46 #[(.int .i64 p0_num), (.int .i64 p1_d)] w0 (fun e w' => ∃ (col' : Col) (ra1 : Option Addr) (rc2 : Nat) (ra4 : Option Addr) (rc5 : Nat), e = .returned ((.agg #[(.bool r.1.1), (.slice ra1 r.1.2.length rc2), (.slice ra4 r.2.length rc5)])) ∧ Grow col w0 col' w' ∧ Own (Rep.int .u32) 114 c1 col' w' ra1 rc2 r.1.2 ∧ Own (Rep.int .u32) 114 c2 col' w' ra4 rc5 r.2) := by
 refine calls_ofR (m := 14) (args := [(.int .i64 p0_num), (.int .i64 p1_d)]) Tryz.func46 rfl rfl rfl ?_
 rw [m_r03_Small.eq_1] at hm
 have hst := St.start col w0
 refine wS (wR ?_)
 refine l_alloc (col := (col0 col)) (v := (.agg #[(.bool false), (.slice none (([] : List Int).length) 0), (.slice none (([] : List Int).length) 0)])) 1 rfl Tryz.zeroValue40 ?_
 intro g_1 w_2 col_3 hg_4 hb_5
 replace hb_5 : Box 40 1 col_3 w_2 g_1 #[(.bool false), (.slice none (([] : List Int).length) 0), (.slice none (([] : List Int).length) 0)] := hb_5
 refine lN (wS (wR ?_))
 refine lM (.int .i64 p0_num) ?_
 refine lM (.int .i64 p1_d) ?_
 obtain ⟨r_6, hr_7, hm⟩ := bS hm
 refine lc rfl rfl (r_call2 Tryz.call95 rfl rfl) (c_r03_Of N 2 3 col_3 _ p0_num p1_d r_6 hr_7) ?_
 rintro _ w_14 ⟨col_16, ra_8, rc_9, ra_11, rc_12, rfl, hg_15, rh_10, rh_13⟩
 refine ⟨_, rfl, ?_⟩
 refine lM (.tuple #[(.agg #[(.bool r_6.1.1.1), (.slice ra_8 r_6.1.1.2.length rc_9), (.slice ra_11 r_6.1.2.length rc_12)]), (.int .i64 r_6.2)]) ?_
 refine lV (.agg #[(.bool r_6.1.1.1), (.slice ra_8 r_6.1.1.2.length rc_9), (.slice ra_11 r_6.1.2.length rc_12)]) (r_extract rfl rfl) ?_
 refine lV (.int .i64 r_6.2) (r_extract rfl rfl) ?_
 refine l_alloc (col := col_16) (v := (.agg #[(.bool false), (.slice none (([] : List Int).length) 0), (.slice none (([] : List Int).length) 0)])) 4 rfl Tryz.zeroValue40 ?_
 intro g_17 w_18 col_19 hg_20 hb_21
 replace hb_21 : Box 40 4 col_19 w_18 g_17 #[(.bool false), (.slice none (([] : List Int).length) 0), (.slice none (([] : List Int).length) 0)] := hb_21
 refine l_bstore (v := (.agg #[(.bool r_6.1.1.1), (.slice ra_8 r_6.1.1.2.length rc_9), (.slice ra_11 r_6.1.2.length rc_12)])) hb_21 Tryz.sizeOf40 rfl rfl (by intro u hu; simp only [Value.cells, List.mem_cons, List.not_mem_nil, or_false] at hu; rcases hu with rfl | rfl | rfl <;> rfl) rfl rfl ?_
 intro w_22 hk_23 hs_24 hb_25
 clear hb_21
 replace hb_25 : Box 40 4 col_19 w_22 g_17 #[(.bool r_6.1.1.1), (.slice ra_8 r_6.1.1.2.length rc_9), (.slice ra_11 r_6.1.2.length rc_12)] := hb_25
 refine lA (.int .i64 r_6.2) ?_
 refine lN (wS (wR ?_))
 refine lV (.agg #[(.bool r_6.1.1.1), (.slice ra_8 r_6.1.1.2.length rc_9), (.slice ra_11 r_6.1.2.length rc_12)]) (r_ldN Tryz.isAgg40 Tryz.sizeOf40 rfl rfl hb_25.atN) ?_
 replace hb_5 := ((hb_5.gr hg_15).gr hg_20).kp hk_23
 refine l_bstore (v := (.agg #[(.bool r_6.1.1.1), (.slice ra_8 r_6.1.1.2.length rc_9), (.slice ra_11 r_6.1.2.length rc_12)])) hb_5 Tryz.sizeOf40 rfl rfl (by intro u hu; simp only [Value.cells, List.mem_cons, List.not_mem_nil, or_false] at hu; rcases hu with rfl | rfl | rfl <;> rfl) rfl rfl ?_
 intro w_26 hk_27 hs_28 hb_29
 clear hb_5
 replace hb_29 : Box 40 1 col_19 w_26 g_1 #[(.bool r_6.1.1.1), (.slice ra_8 r_6.1.1.2.length rc_9), (.slice ra_11 r_6.1.2.length rc_12)] := hb_29
 refine lN ?_
 refine wret ?_
 cases hm
 replace hst := ((((hst.grow hg_4).grow hg_15).grow hg_20).kp hk_23 hs_24).kp hk_27 hs_28
 replace rh_10 := ((rh_10.gr hg_20).kp hk_23).kp hk_27
 replace rh_13 := ((rh_13.gr hg_20).kp hk_23).kp hk_27
 exact ⟨rfl, _, res_a rfl rfl Tryz.isAgg40 Tryz.sizeOf40 rfl rfl hb_29.atN, colF w0.heap.size col col_19 (fun n => bif Nat.beq n 2 then c1 else bif Nat.beq n 3 then c2 else 0), ra_8, rc_9, ra_11, rc_12, rfl, hst.fin (fun n => bif Nat.beq n 2 then c1 else bif Nat.beq n 3 then c2 else 0), hst.finOwn (g := (fun n => bif Nat.beq n 2 then c1 else bif Nat.beq n 3 then c2 else 0)) rfl rh_10 (by decide) (by decide) rfl, hst.finOwn (g := (fun n => bif Nat.beq n 2 then c1 else bif Nat.beq n 3 then c2 else 0)) rfl rh_13 (by decide) (by decide) rfl⟩
theorem el3_15 : ElemOk Tryz.prog 3 1 8 := ⟨Tryz.t3, _, rfl, rfl, rfl, rfl, rfl⟩
theorem el9_15 : ElemOk Tryz.prog 9 1 16 := ⟨Tryz.t9, _, rfl, rfl, rfl, rfl, rfl⟩
theorem el23_15 : ElemOk Tryz.prog 23 1 24 := ⟨Tryz.t23, _, rfl, rfl, rfl, rfl, rfl⟩
theorem el33_15 : ElemOk Tryz.prog 33 1 24 := ⟨Tryz.t33, _, rfl, rfl, rfl, rfl, rfl⟩
theorem el40_15 : ElemOk Tryz.prog 40 3 56 := ⟨Tryz.t40, _, rfl, rfl, rfl, rfl, rfl⟩
theorem el51_15 : ElemOk Tryz.prog 51 1 24 := ⟨Tryz.t51, _, rfl, rfl, rfl, rfl, rfl⟩
def m_r20_Rain (N : Nat)  : Option (ByteArray × (List ByteArray) × (List (List ByteArray)) × (List (List Int)) × (List (List ((Bool × (List Int)) × (List Int))))) :=
  (m_r03_Small N 4 5).bind fun r_47 => (m_r03_Small N 1 5).bind fun r_58 => (m_r03_Small N 9 10).bind fun r_79 => (m_r03_Small N 1 10).bind fun r_90 => (m_r03_Small N 1 10).bind fun r_101 => (m_r03_Small N 9 10).bind fun r_112 => some (⟨#[114, 97, 105, 110]⟩, ([⟨#[114, 97, 105, 110]⟩, ⟨#[103, 114, 97, 115, 115]⟩] : List ByteArray), [([⟨#[110, 111]⟩, ⟨#[121, 101, 115]⟩] : List ByteArray), ([⟨#[100, 114, 121]⟩, ⟨#[119, 101, 116]⟩] : List ByteArray)], [([] : List Int), [0]], [[((r_47.1.1, r_47.1.2), r_47.2), ((r_58.1.1, r_58.1.2), r_58.2)], [((r_79.1.1, r_79.1.2), r_79.2), ((r_90.1.1, r_90.1.2), r_90.2), ((r_101.1.1, r_101.1.2), r_101.2), ((r_112.1.1, r_112.1.2), r_112.2)]])
theorem c_r20_Rain (N : Nat) (c1 : Nat) (c2 : Nat) (c3 : Nat) (c4 : Nat) (col : Col) (w0 : World)  (r : (ByteArray × (List ByteArray) × (List (List ByteArray)) × (List (List Int)) × (List (List ((Bool × (List Int)) × (List Int)))))) (hm : m_r20_Rain N = some r) :
    Calls Tryz.prog 15 #[] w0 (fun e w' => ∃ (col' : Col) (ra1 : Option Addr) (rc2 : Nat) (ra4 : Option Addr) (rc5 : Nat) (ra7 : Option Addr) (rc8 : Nat) (ra10 : Option Addr) (rc11 : Nat), e = .returned ((.agg #[(.string r.1), (.slice ra1 r.2.1.length rc2), (.slice ra4 r.2.2.1.length rc5), (.slice ra7 r.2.2.2.1.length rc8), (.slice ra10 r.2.2.2.2.length rc11)])) ∧ Grow col w0 col' w' ∧ Own Rep.str 9 c1 col' w' ra1 rc2 r.2.1 ∧ Own (Rep.row 9 Rep.str) 23 c2 col' w' ra4 rc5 r.2.2.1 ∧ Own (Rep.row 3 (Rep.int .i64)) 33 c3 col' w' ra7 rc8 r.2.2.2.1 ∧ Own (Rep.row 40 (Rep.pair (Rep.pair Rep.bool (Rep.row 114 (Rep.int .u32))) (Rep.row 114 (Rep.int .u32)))) 51 c4 col' w' ra10 rc11 r.2.2.2.2) := by
 refine calls_ofR (m := 18) (args := []) Tryz.func15 rfl rfl rfl ?_
 rw [m_r20_Rain.eq_1] at hm
 have hst := St.start col w0
 refine wS (wR ?_)
 refine l_alloc (col := (col0 col)) (v := (.agg #[(.string (⟨#[]⟩)), (.slice none (([] : List ByteArray).length) 0), (.slice none (([] : List (List ByteArray)).length) 0), (.slice none (([] : List (List Int)).length) 0), (.slice none (([] : List (List ((Bool × (List Int)) × (List Int)))).length) 0)])) 1 rfl Tryz.zeroValue28 ?_
 intro g_1 w_2 col_3 hg_4 hb_5
 replace hb_5 : Box 28 1 col_3 w_2 g_1 #[(.string (⟨#[]⟩)), (.slice none (([] : List ByteArray).length) 0), (.slice none (([] : List (List ByteArray)).length) 0), (.slice none (([] : List (List Int)).length) 0), (.slice none (([] : List (List ((Bool × (List Int)) × (List Int)))).length) 0)] := hb_5
 refine lN (wS (wR ?_))
 refine l_lit (col := col_3) (r := Rep.str) (xs := ([⟨#[114, 97, 105, 110]⟩, ⟨#[103, 114, 97, 115, 115]⟩] : List ByteArray)) [(.string (⟨#[114, 97, 105, 110]⟩)), (.string (⟨#[103, 114, 97, 115, 115]⟩))] 2 rfl Tryz.underlying23 el9_15 rfl rfl rfl rfl rfl rfl (by intro v hv; simp only [List.mem_cons, List.not_mem_nil, or_false] at hv; rcases hv with rfl | rfl <;> rfl) (RowsH.ofF (Rows.consF (r := Rep.str) (x := ⟨#[114, 97, 105, 110]⟩) (cs := [(.string (⟨#[114, 97, 105, 110]⟩))]) (rd_str (⟨#[114, 97, 105, 110]⟩)) (Rows.consF (r := Rep.str) (x := ⟨#[103, 114, 97, 115, 115]⟩) (cs := [(.string (⟨#[103, 114, 97, 115, 115]⟩))]) (rd_str (⟨#[103, 114, 97, 115, 115]⟩)) Rows.nil0))) ?_
 intro a_6 w_7 col_8 hg_9 h_10
 refine l_lit (col := col_8) (r := Rep.str) (xs := ([⟨#[110, 111]⟩, ⟨#[121, 101, 115]⟩] : List ByteArray)) [(.string (⟨#[110, 111]⟩)), (.string (⟨#[121, 101, 115]⟩))] 3 rfl Tryz.underlying23 el9_15 rfl rfl rfl rfl rfl rfl (by intro v hv; simp only [List.mem_cons, List.not_mem_nil, or_false] at hv; rcases hv with rfl | rfl <;> rfl) (RowsH.ofF (Rows.consF (r := Rep.str) (x := ⟨#[110, 111]⟩) (cs := [(.string (⟨#[110, 111]⟩))]) (rd_str (⟨#[110, 111]⟩)) (Rows.consF (r := Rep.str) (x := ⟨#[121, 101, 115]⟩) (cs := [(.string (⟨#[121, 101, 115]⟩))]) (rd_str (⟨#[121, 101, 115]⟩)) Rows.nil0))) ?_
 intro a_11 w_12 col_13 hg_14 h_15
 refine l_lit (col := col_13) (r := Rep.str) (xs := ([⟨#[100, 114, 121]⟩, ⟨#[119, 101, 116]⟩] : List ByteArray)) [(.string (⟨#[100, 114, 121]⟩)), (.string (⟨#[119, 101, 116]⟩))] 4 rfl Tryz.underlying23 el9_15 rfl rfl rfl rfl rfl rfl (by intro v hv; simp only [List.mem_cons, List.not_mem_nil, or_false] at hv; rcases hv with rfl | rfl <;> rfl) (RowsH.ofF (Rows.consF (r := Rep.str) (x := ⟨#[100, 114, 121]⟩) (cs := [(.string (⟨#[100, 114, 121]⟩))]) (rd_str (⟨#[100, 114, 121]⟩)) (Rows.consF (r := Rep.str) (x := ⟨#[119, 101, 116]⟩) (cs := [(.string (⟨#[119, 101, 116]⟩))]) (rd_str (⟨#[119, 101, 116]⟩)) Rows.nil0))) ?_
 intro a_16 w_17 col_18 hg_19 h_20
 replace h_15 := h_15.gr hg_19
 have hx_21 : Has (Rep.row 9 Rep.str) 3 col_18 w_17 [(.slice a_11 (([⟨#[110, 111]⟩, ⟨#[121, 101, 115]⟩] : List ByteArray).length) 2)] ([⟨#[110, 111]⟩, ⟨#[121, 101, 115]⟩] : List ByteArray) := h_15.has
 have hx_22 : Has (Rep.row 9 Rep.str) 4 col_18 w_17 [(.slice a_16 (([⟨#[100, 114, 121]⟩, ⟨#[119, 101, 116]⟩] : List ByteArray).length) 2)] ([⟨#[100, 114, 121]⟩, ⟨#[119, 101, 116]⟩] : List ByteArray) := h_20.has
 have hx_23 := RowsH.cons (cs := [(.slice a_11 (([⟨#[110, 111]⟩, ⟨#[121, 101, 115]⟩] : List ByteArray).length) 2)]) hx_21 (RowsH.cons1 (cs := [(.slice a_16 (([⟨#[100, 114, 121]⟩, ⟨#[119, 101, 116]⟩] : List ByteArray).length) 2)]) hx_22 Rows.nil0) (by decide) (by decide)
 replace h_10 := (h_10.gr hg_14).gr hg_19
 replace h_10 := h_10.recol 3 4 (by decide)
 replace hb_5 := ((hb_5.gr hg_9).gr hg_14).gr hg_19
 replace hb_5 := hb_5.recol 3 4 (by decide)
 replace hst := (((hst.grow hg_4).grow hg_9).grow hg_14).grow hg_19
 replace hst := hst.recol 3 4 (by decide) (by decide)
 refine l_lit (col := (rcC 3 4 col_18)) (r := (Rep.row 9 Rep.str)) (xs := [([⟨#[110, 111]⟩, ⟨#[121, 101, 115]⟩] : List ByteArray), ([⟨#[100, 114, 121]⟩, ⟨#[119, 101, 116]⟩] : List ByteArray)]) [(.slice a_11 (([⟨#[110, 111]⟩, ⟨#[121, 101, 115]⟩] : List ByteArray).length) 2), (.slice a_16 (([⟨#[100, 114, 121]⟩, ⟨#[119, 101, 116]⟩] : List ByteArray).length) 2)] 4 rfl Tryz.underlying24 el23_15 rfl rfl rfl rfl rfl rfl (by intro v hv; simp only [List.mem_cons, List.not_mem_nil, or_false] at hv; rcases hv with rfl | rfl <;> rfl) hx_23 ?_
 intro a_24 w_25 col_26 hg_27 h_28
 refine l_lit0 (col := col_26) (r := (Rep.int .i64)) 5 rfl Tryz.underlying33 el3_15 rfl ?_
 intro a_29 w_30 col_31 hg_32 h_33
 refine l_lit (col := col_31) (r := (Rep.int .i64)) (xs := [0]) [(.int .i64 0)] 6 rfl Tryz.underlying33 el3_15 rfl rfl rfl rfl rfl rfl (by intro v hv; simp only [List.mem_cons, List.not_mem_nil, or_false] at hv; subst hv; rfl) (RowsH.ofF (Rows.consF (r := (Rep.int .i64)) (x := 0) (cs := [(.int .i64 0)]) (rd_int .i64 0) Rows.nil0)) ?_
 intro a_34 w_35 col_36 hg_37 h_38
 replace h_33 := h_33.gr hg_37
 have hx_39 : Has (Rep.row 3 (Rep.int .i64)) 5 col_36 w_35 [(.slice a_29 (([] : List Int).length) 0)] ([] : List Int) := h_33.has
 have hx_40 : Has (Rep.row 3 (Rep.int .i64)) 6 col_36 w_35 [(.slice a_34 ([0].length) 1)] [0] := h_38.has
 have hx_41 := RowsH.cons (cs := [(.slice a_29 (([] : List Int).length) 0)]) hx_39 (RowsH.cons1 (cs := [(.slice a_34 ([0].length) 1)]) hx_40 Rows.nil0) (by decide) (by decide)
 replace h_10 := ((h_10.gr hg_27).gr hg_32).gr hg_37
 replace h_10 := h_10.recol 5 6 (by decide)
 replace h_28 := (h_28.gr hg_32).gr hg_37
 replace h_28 := h_28.recol 5 6 (by decide)
 replace hb_5 := ((hb_5.gr hg_27).gr hg_32).gr hg_37
 replace hb_5 := hb_5.recol 5 6 (by decide)
 replace hst := ((hst.grow hg_27).grow hg_32).grow hg_37
 replace hst := hst.recol 5 6 (by decide) (by decide)
 refine l_lit (col := (rcC 5 6 col_36)) (r := (Rep.row 3 (Rep.int .i64))) (xs := [([] : List Int), [0]]) [(.slice a_29 (([] : List Int).length) 0), (.slice a_34 ([0].length) 1)] 6 rfl Tryz.underlying25 el33_15 rfl rfl rfl rfl rfl rfl (by intro v hv; simp only [List.mem_cons, List.not_mem_nil, or_false] at hv; rcases hv with rfl | rfl <;> rfl) hx_41 ?_
 intro a_42 w_43 col_44 hg_45 h_46
 obtain ⟨r_47, hr_48, hm⟩ := bS hm
 refine lc rfl rfl (r_call2 Tryz.call46 rfl rfl) (c_r03_Small N 7 8 col_44 _ 4 5 r_47 hr_48) ?_
 rintro _ w_55 ⟨col_57, ra_49, rc_50, ra_52, rc_53, rfl, hg_56, rh_51, rh_54⟩
 refine ⟨_, rfl, ?_⟩
 obtain ⟨r_58, hr_59, hm⟩ := bS hm
 refine lc rfl rfl (r_call2 Tryz.call46 rfl rfl) (c_r03_Small N 9 10 col_57 _ 1 5 r_58 hr_59) ?_
 rintro _ w_66 ⟨col_68, ra_60, rc_61, ra_63, rc_64, rfl, hg_67, rh_62, rh_65⟩
 refine ⟨_, rfl, ?_⟩
 replace rh_51 := rh_51.gr hg_67
 replace rh_54 := rh_54.gr hg_67
 have hx_69 := Has.join (Has.joinL (rd_bool r_47.1.1) rh_51.has) rh_54.has (by decide) (by decide)
 replace h_10 := ((h_10.gr hg_45).gr hg_56).gr hg_67
 replace h_10 := h_10.recol 8 7 (by decide)
 replace h_28 := ((h_28.gr hg_45).gr hg_56).gr hg_67
 replace h_28 := h_28.recol 8 7 (by decide)
 replace h_46 := (h_46.gr hg_56).gr hg_67
 replace h_46 := h_46.recol 8 7 (by decide)
 replace rh_62 := rh_62.recol 8 7 (by decide)
 replace rh_65 := rh_65.recol 8 7 (by decide)
 replace hb_5 := ((hb_5.gr hg_45).gr hg_56).gr hg_67
 replace hb_5 := hb_5.recol 8 7 (by decide)
 replace hst := ((hst.grow hg_45).grow hg_56).grow hg_67
 replace hst := hst.recol 8 7 (by decide) (by decide)
 have hx_70 : Has (Rep.pair (Rep.pair Rep.bool (Rep.row 114 (Rep.int .u32))) (Rep.row 114 (Rep.int .u32))) 7 (rcC 8 7 col_68) w_66 [(.bool r_47.1.1), (.slice ra_49 r_47.1.2.length rc_50), (.slice ra_52 r_47.2.length rc_53)] ((r_47.1.1, r_47.1.2), r_47.2) := hx_69
 have hx_71 := Has.join (Has.joinL (rd_bool r_58.1.1) rh_62.has) rh_65.has (by decide) (by decide)
 replace h_10 := h_10.recol 10 9 (by decide)
 replace h_28 := h_28.recol 10 9 (by decide)
 replace h_46 := h_46.recol 10 9 (by decide)
 replace hb_5 := hb_5.recol 10 9 (by decide)
 replace hst := hst.recol 10 9 (by decide) (by decide)
 replace hx_70 := hx_70.recol 10 9 (by decide)
 have hx_72 : Has (Rep.pair (Rep.pair Rep.bool (Rep.row 114 (Rep.int .u32))) (Rep.row 114 (Rep.int .u32))) 9 (rcC 10 9 (rcC 8 7 col_68)) w_66 [(.bool r_58.1.1), (.slice ra_60 r_58.1.2.length rc_61), (.slice ra_63 r_58.2.length rc_64)] ((r_58.1.1, r_58.1.2), r_58.2) := hx_71
 have hx_73 := RowsH.cons (cs := [(.bool r_47.1.1), (.slice ra_49 r_47.1.2.length rc_50), (.slice ra_52 r_47.2.length rc_53)]) hx_70 (RowsH.cons1 (cs := [(.bool r_58.1.1), (.slice ra_60 r_58.1.2.length rc_61), (.slice ra_63 r_58.2.length rc_64)]) hx_72 Rows.nil0) (by decide) (by decide)
 replace h_10 := h_10.recol 7 9 (by decide)
 replace h_28 := h_28.recol 7 9 (by decide)
 replace h_46 := h_46.recol 7 9 (by decide)
 replace hb_5 := hb_5.recol 7 9 (by decide)
 replace hst := hst.recol 7 9 (by decide) (by decide)
 refine l_lit (col := (rcC 7 9 (rcC 10 9 (rcC 8 7 col_68)))) (r := (Rep.pair (Rep.pair Rep.bool (Rep.row 114 (Rep.int .u32))) (Rep.row 114 (Rep.int .u32)))) (xs := [((r_47.1.1, r_47.1.2), r_47.2), ((r_58.1.1, r_58.1.2), r_58.2)]) [(.agg #[(.bool r_47.1.1), (.slice ra_49 r_47.1.2.length rc_50), (.slice ra_52 r_47.2.length rc_53)]), (.agg #[(.bool r_58.1.1), (.slice ra_60 r_58.1.2.length rc_61), (.slice ra_63 r_58.2.length rc_64)])] 9 rfl Tryz.underlying51 el40_15 rfl rfl rfl rfl rfl rfl (by intro v hv; simp only [List.mem_cons, List.not_mem_nil, or_false] at hv; rcases hv with rfl | rfl <;> rfl) hx_73 ?_
 intro a_74 w_75 col_76 hg_77 h_78
 obtain ⟨r_79, hr_80, hm⟩ := bS hm
 refine lc rfl rfl (r_call2 Tryz.call46 rfl rfl) (c_r03_Small N 11 12 col_76 _ 9 10 r_79 hr_80) ?_
 rintro _ w_87 ⟨col_89, ra_81, rc_82, ra_84, rc_85, rfl, hg_88, rh_83, rh_86⟩
 refine ⟨_, rfl, ?_⟩
 obtain ⟨r_90, hr_91, hm⟩ := bS hm
 refine lc rfl rfl (r_call2 Tryz.call46 rfl rfl) (c_r03_Small N 13 14 col_89 _ 1 10 r_90 hr_91) ?_
 rintro _ w_98 ⟨col_100, ra_92, rc_93, ra_95, rc_96, rfl, hg_99, rh_94, rh_97⟩
 refine ⟨_, rfl, ?_⟩
 obtain ⟨r_101, hr_102, hm⟩ := bS hm
 refine lc rfl rfl (r_call2 Tryz.call46 rfl rfl) (c_r03_Small N 15 16 col_100 _ 1 10 r_101 hr_102) ?_
 rintro _ w_109 ⟨col_111, ra_103, rc_104, ra_106, rc_107, rfl, hg_110, rh_105, rh_108⟩
 refine ⟨_, rfl, ?_⟩
 obtain ⟨r_112, hr_113, hm⟩ := bS hm
 refine lc rfl rfl (r_call2 Tryz.call46 rfl rfl) (c_r03_Small N 17 18 col_111 _ 9 10 r_112 hr_113) ?_
 rintro _ w_120 ⟨col_122, ra_114, rc_115, ra_117, rc_118, rfl, hg_121, rh_116, rh_119⟩
 refine ⟨_, rfl, ?_⟩
 replace rh_83 := ((rh_83.gr hg_99).gr hg_110).gr hg_121
 replace rh_86 := ((rh_86.gr hg_99).gr hg_110).gr hg_121
 have hx_123 := Has.join (Has.joinL (rd_bool r_79.1.1) rh_83.has) rh_86.has (by decide) (by decide)
 replace h_10 := ((((h_10.gr hg_77).gr hg_88).gr hg_99).gr hg_110).gr hg_121
 replace h_10 := h_10.recol 12 11 (by decide)
 replace h_28 := ((((h_28.gr hg_77).gr hg_88).gr hg_99).gr hg_110).gr hg_121
 replace h_28 := h_28.recol 12 11 (by decide)
 replace h_46 := ((((h_46.gr hg_77).gr hg_88).gr hg_99).gr hg_110).gr hg_121
 replace h_46 := h_46.recol 12 11 (by decide)
 replace h_78 := (((h_78.gr hg_88).gr hg_99).gr hg_110).gr hg_121
 replace h_78 := h_78.recol 12 11 (by decide)
 replace rh_94 := (rh_94.gr hg_110).gr hg_121
 replace rh_94 := rh_94.recol 12 11 (by decide)
 replace rh_97 := (rh_97.gr hg_110).gr hg_121
 replace rh_97 := rh_97.recol 12 11 (by decide)
 replace rh_105 := rh_105.gr hg_121
 replace rh_105 := rh_105.recol 12 11 (by decide)
 replace rh_108 := rh_108.gr hg_121
 replace rh_108 := rh_108.recol 12 11 (by decide)
 replace rh_116 := rh_116.recol 12 11 (by decide)
 replace rh_119 := rh_119.recol 12 11 (by decide)
 replace hb_5 := ((((hb_5.gr hg_77).gr hg_88).gr hg_99).gr hg_110).gr hg_121
 replace hb_5 := hb_5.recol 12 11 (by decide)
 replace hst := ((((hst.grow hg_77).grow hg_88).grow hg_99).grow hg_110).grow hg_121
 replace hst := hst.recol 12 11 (by decide) (by decide)
 have hx_124 : Has (Rep.pair (Rep.pair Rep.bool (Rep.row 114 (Rep.int .u32))) (Rep.row 114 (Rep.int .u32))) 11 (rcC 12 11 col_122) w_120 [(.bool r_79.1.1), (.slice ra_81 r_79.1.2.length rc_82), (.slice ra_84 r_79.2.length rc_85)] ((r_79.1.1, r_79.1.2), r_79.2) := hx_123
 have hx_125 := Has.join (Has.joinL (rd_bool r_90.1.1) rh_94.has) rh_97.has (by decide) (by decide)
 replace h_10 := h_10.recol 14 13 (by decide)
 replace h_28 := h_28.recol 14 13 (by decide)
 replace h_46 := h_46.recol 14 13 (by decide)
 replace h_78 := h_78.recol 14 13 (by decide)
 replace rh_105 := rh_105.recol 14 13 (by decide)
 replace rh_108 := rh_108.recol 14 13 (by decide)
 replace rh_116 := rh_116.recol 14 13 (by decide)
 replace rh_119 := rh_119.recol 14 13 (by decide)
 replace hb_5 := hb_5.recol 14 13 (by decide)
 replace hst := hst.recol 14 13 (by decide) (by decide)
 replace hx_124 := hx_124.recol 14 13 (by decide)
 have hx_126 : Has (Rep.pair (Rep.pair Rep.bool (Rep.row 114 (Rep.int .u32))) (Rep.row 114 (Rep.int .u32))) 13 (rcC 14 13 (rcC 12 11 col_122)) w_120 [(.bool r_90.1.1), (.slice ra_92 r_90.1.2.length rc_93), (.slice ra_95 r_90.2.length rc_96)] ((r_90.1.1, r_90.1.2), r_90.2) := hx_125
 have hx_127 := Has.join (Has.joinL (rd_bool r_101.1.1) rh_105.has) rh_108.has (by decide) (by decide)
 replace h_10 := h_10.recol 16 15 (by decide)
 replace h_28 := h_28.recol 16 15 (by decide)
 replace h_46 := h_46.recol 16 15 (by decide)
 replace h_78 := h_78.recol 16 15 (by decide)
 replace rh_116 := rh_116.recol 16 15 (by decide)
 replace rh_119 := rh_119.recol 16 15 (by decide)
 replace hb_5 := hb_5.recol 16 15 (by decide)
 replace hst := hst.recol 16 15 (by decide) (by decide)
 replace hx_124 := hx_124.recol 16 15 (by decide)
 replace hx_126 := hx_126.recol 16 15 (by decide)
 have hx_128 : Has (Rep.pair (Rep.pair Rep.bool (Rep.row 114 (Rep.int .u32))) (Rep.row 114 (Rep.int .u32))) 15 (rcC 16 15 (rcC 14 13 (rcC 12 11 col_122))) w_120 [(.bool r_101.1.1), (.slice ra_103 r_101.1.2.length rc_104), (.slice ra_106 r_101.2.length rc_107)] ((r_101.1.1, r_101.1.2), r_101.2) := hx_127
 have hx_129 := Has.join (Has.joinL (rd_bool r_112.1.1) rh_116.has) rh_119.has (by decide) (by decide)
 replace h_10 := h_10.recol 18 17 (by decide)
 replace h_28 := h_28.recol 18 17 (by decide)
 replace h_46 := h_46.recol 18 17 (by decide)
 replace h_78 := h_78.recol 18 17 (by decide)
 replace hb_5 := hb_5.recol 18 17 (by decide)
 replace hst := hst.recol 18 17 (by decide) (by decide)
 replace hx_124 := hx_124.recol 18 17 (by decide)
 replace hx_126 := hx_126.recol 18 17 (by decide)
 replace hx_128 := hx_128.recol 18 17 (by decide)
 have hx_130 : Has (Rep.pair (Rep.pair Rep.bool (Rep.row 114 (Rep.int .u32))) (Rep.row 114 (Rep.int .u32))) 17 (rcC 18 17 (rcC 16 15 (rcC 14 13 (rcC 12 11 col_122)))) w_120 [(.bool r_112.1.1), (.slice ra_114 r_112.1.2.length rc_115), (.slice ra_117 r_112.2.length rc_118)] ((r_112.1.1, r_112.1.2), r_112.2) := hx_129
 have hx_131 := RowsH.cons (cs := [(.bool r_101.1.1), (.slice ra_103 r_101.1.2.length rc_104), (.slice ra_106 r_101.2.length rc_107)]) hx_128 (RowsH.cons1 (cs := [(.bool r_112.1.1), (.slice ra_114 r_112.1.2.length rc_115), (.slice ra_117 r_112.2.length rc_118)]) hx_130 Rows.nil0) (by decide) (by decide)
 replace hx_124 := hx_124.recol 15 17 (by decide)
 replace hx_126 := hx_126.recol 15 17 (by decide)
 replace h_10 := h_10.recol 15 17 (by decide)
 replace h_28 := h_28.recol 15 17 (by decide)
 replace h_46 := h_46.recol 15 17 (by decide)
 replace h_78 := h_78.recol 15 17 (by decide)
 replace hb_5 := hb_5.recol 15 17 (by decide)
 replace hst := hst.recol 15 17 (by decide) (by decide)
 have hx_132 := RowsH.cons (cs := [(.bool r_90.1.1), (.slice ra_92 r_90.1.2.length rc_93), (.slice ra_95 r_90.2.length rc_96)]) hx_126 hx_131 (by decide) (by decide)
 replace hx_124 := hx_124.recol 13 17 (by decide)
 replace h_10 := h_10.recol 13 17 (by decide)
 replace h_28 := h_28.recol 13 17 (by decide)
 replace h_46 := h_46.recol 13 17 (by decide)
 replace h_78 := h_78.recol 13 17 (by decide)
 replace hb_5 := hb_5.recol 13 17 (by decide)
 replace hst := hst.recol 13 17 (by decide) (by decide)
 have hx_133 := RowsH.cons (cs := [(.bool r_79.1.1), (.slice ra_81 r_79.1.2.length rc_82), (.slice ra_84 r_79.2.length rc_85)]) hx_124 hx_132 (by decide) (by decide)
 replace h_10 := h_10.recol 11 17 (by decide)
 replace h_28 := h_28.recol 11 17 (by decide)
 replace h_46 := h_46.recol 11 17 (by decide)
 replace h_78 := h_78.recol 11 17 (by decide)
 replace hb_5 := hb_5.recol 11 17 (by decide)
 replace hst := hst.recol 11 17 (by decide) (by decide)
 refine l_lit (col := (rcC 11 17 (rcC 13 17 (rcC 15 17 (rcC 18 17 (rcC 16 15 (rcC 14 13 (rcC 12 11 col_122)))))))) (r := (Rep.pair (Rep.pair Rep.bool (Rep.row 114 (Rep.int .u32))) (Rep.row 114 (Rep.int .u32)))) (xs := [((r_79.1.1, r_79.1.2), r_79.2), ((r_90.1.1, r_90.1.2), r_90.2), ((r_101.1.1, r_101.1.2), r_101.2), ((r_112.1.1, r_112.1.2), r_112.2)]) [(.agg #[(.bool r_79.1.1), (.slice ra_81 r_79.1.2.length rc_82), (.slice ra_84 r_79.2.length rc_85)]), (.agg #[(.bool r_90.1.1), (.slice ra_92 r_90.1.2.length rc_93), (.slice ra_95 r_90.2.length rc_96)]), (.agg #[(.bool r_101.1.1), (.slice ra_103 r_101.1.2.length rc_104), (.slice ra_106 r_101.2.length rc_107)]), (.agg #[(.bool r_112.1.1), (.slice ra_114 r_112.1.2.length rc_115), (.slice ra_117 r_112.2.length rc_118)])] 17 rfl Tryz.underlying51 el40_15 rfl rfl rfl rfl rfl rfl (by intro v hv; simp only [List.mem_cons, List.not_mem_nil, or_false] at hv; rcases hv with rfl | rfl | rfl | rfl <;> rfl) hx_133 ?_
 intro a_134 w_135 col_136 hg_137 h_138
 replace h_78 := h_78.gr hg_137
 have hx_139 : Has (Rep.row 40 (Rep.pair (Rep.pair Rep.bool (Rep.row 114 (Rep.int .u32))) (Rep.row 114 (Rep.int .u32)))) 9 col_136 w_135 [(.slice a_74 ([((r_47.1.1, r_47.1.2), r_47.2), ((r_58.1.1, r_58.1.2), r_58.2)].length) 2)] [((r_47.1.1, r_47.1.2), r_47.2), ((r_58.1.1, r_58.1.2), r_58.2)] := h_78.has
 have hx_140 : Has (Rep.row 40 (Rep.pair (Rep.pair Rep.bool (Rep.row 114 (Rep.int .u32))) (Rep.row 114 (Rep.int .u32)))) 17 col_136 w_135 [(.slice a_134 ([((r_79.1.1, r_79.1.2), r_79.2), ((r_90.1.1, r_90.1.2), r_90.2), ((r_101.1.1, r_101.1.2), r_101.2), ((r_112.1.1, r_112.1.2), r_112.2)].length) 4)] [((r_79.1.1, r_79.1.2), r_79.2), ((r_90.1.1, r_90.1.2), r_90.2), ((r_101.1.1, r_101.1.2), r_101.2), ((r_112.1.1, r_112.1.2), r_112.2)] := h_138.has
 have hx_141 := RowsH.cons (cs := [(.slice a_74 ([((r_47.1.1, r_47.1.2), r_47.2), ((r_58.1.1, r_58.1.2), r_58.2)].length) 2)]) hx_139 (RowsH.cons1 (cs := [(.slice a_134 ([((r_79.1.1, r_79.1.2), r_79.2), ((r_90.1.1, r_90.1.2), r_90.2), ((r_101.1.1, r_101.1.2), r_101.2), ((r_112.1.1, r_112.1.2), r_112.2)].length) 4)]) hx_140 Rows.nil0) (by decide) (by decide)
 replace h_10 := h_10.gr hg_137
 replace h_10 := h_10.recol 9 17 (by decide)
 replace h_28 := h_28.gr hg_137
 replace h_28 := h_28.recol 9 17 (by decide)
 replace h_46 := h_46.gr hg_137
 replace h_46 := h_46.recol 9 17 (by decide)
 replace hb_5 := hb_5.gr hg_137
 replace hb_5 := hb_5.recol 9 17 (by decide)
 replace hst := hst.grow hg_137
 replace hst := hst.recol 9 17 (by decide) (by decide)
 refine l_lit (col := (rcC 9 17 col_136)) (r := (Rep.row 40 (Rep.pair (Rep.pair Rep.bool (Rep.row 114 (Rep.int .u32))) (Rep.row 114 (Rep.int .u32))))) (xs := [[((r_47.1.1, r_47.1.2), r_47.2), ((r_58.1.1, r_58.1.2), r_58.2)], [((r_79.1.1, r_79.1.2), r_79.2), ((r_90.1.1, r_90.1.2), r_90.2), ((r_101.1.1, r_101.1.2), r_101.2), ((r_112.1.1, r_112.1.2), r_112.2)]]) [(.slice a_74 ([((r_47.1.1, r_47.1.2), r_47.2), ((r_58.1.1, r_58.1.2), r_58.2)].length) 2), (.slice a_134 ([((r_79.1.1, r_79.1.2), r_79.2), ((r_90.1.1, r_90.1.2), r_90.2), ((r_101.1.1, r_101.1.2), r_101.2), ((r_112.1.1, r_112.1.2), r_112.2)].length) 4)] 17 rfl Tryz.underlying26 el51_15 rfl rfl rfl rfl rfl rfl (by intro v hv; simp only [List.mem_cons, List.not_mem_nil, or_false] at hv; rcases hv with rfl | rfl <;> rfl) hx_141 ?_
 intro a_142 w_143 col_144 hg_145 h_146
 refine lV (.agg #[(.string (⟨#[114, 97, 105, 110]⟩)), (.slice a_6 (([⟨#[114, 97, 105, 110]⟩, ⟨#[103, 114, 97, 115, 115]⟩] : List ByteArray).length) 2), (.slice a_24 ([([⟨#[110, 111]⟩, ⟨#[121, 101, 115]⟩] : List ByteArray), ([⟨#[100, 114, 121]⟩, ⟨#[119, 101, 116]⟩] : List ByteArray)].length) 2), (.slice a_42 ([([] : List Int), [0]].length) 2), (.slice a_142 ([[((r_47.1.1, r_47.1.2), r_47.2), ((r_58.1.1, r_58.1.2), r_58.2)], [((r_79.1.1, r_79.1.2), r_79.2), ((r_90.1.1, r_90.1.2), r_90.2), ((r_101.1.1, r_101.1.2), r_101.2), ((r_112.1.1, r_112.1.2), r_112.2)]].length) 2)]) (r_build (l := [_, _, _, _, _]) (qs := [(0, 1), (1, 1), (2, 1), (3, 1), (4, 1)]) Tryz.underlying28 Tryz.zeroValue28 ⟨rfl, Tryz.sizeOf9, rfl, Tryz.sizeOf23, rfl, Tryz.sizeOf24, rfl, Tryz.sizeOf25, rfl, Tryz.sizeOf26, trivial⟩ rfl) ?_
 replace hb_5 := hb_5.gr hg_145
 refine l_bstore (v := (.agg #[(.string (⟨#[114, 97, 105, 110]⟩)), (.slice a_6 (([⟨#[114, 97, 105, 110]⟩, ⟨#[103, 114, 97, 115, 115]⟩] : List ByteArray).length) 2), (.slice a_24 ([([⟨#[110, 111]⟩, ⟨#[121, 101, 115]⟩] : List ByteArray), ([⟨#[100, 114, 121]⟩, ⟨#[119, 101, 116]⟩] : List ByteArray)].length) 2), (.slice a_42 ([([] : List Int), [0]].length) 2), (.slice a_142 ([[((r_47.1.1, r_47.1.2), r_47.2), ((r_58.1.1, r_58.1.2), r_58.2)], [((r_79.1.1, r_79.1.2), r_79.2), ((r_90.1.1, r_90.1.2), r_90.2), ((r_101.1.1, r_101.1.2), r_101.2), ((r_112.1.1, r_112.1.2), r_112.2)]].length) 2)])) hb_5 Tryz.sizeOf28 rfl rfl (by intro u hu; simp only [Value.cells, List.mem_cons, List.not_mem_nil, or_false] at hu; rcases hu with rfl | rfl | rfl | rfl | rfl <;> rfl) rfl rfl ?_
 intro w_147 hk_148 hs_149 hb_150
 clear hb_5
 replace hb_150 : Box 28 1 col_144 w_147 g_1 #[(.string (⟨#[114, 97, 105, 110]⟩)), (.slice a_6 (([⟨#[114, 97, 105, 110]⟩, ⟨#[103, 114, 97, 115, 115]⟩] : List ByteArray).length) 2), (.slice a_24 ([([⟨#[110, 111]⟩, ⟨#[121, 101, 115]⟩] : List ByteArray), ([⟨#[100, 114, 121]⟩, ⟨#[119, 101, 116]⟩] : List ByteArray)].length) 2), (.slice a_42 ([([] : List Int), [0]].length) 2), (.slice a_142 ([[((r_47.1.1, r_47.1.2), r_47.2), ((r_58.1.1, r_58.1.2), r_58.2)], [((r_79.1.1, r_79.1.2), r_79.2), ((r_90.1.1, r_90.1.2), r_90.2), ((r_101.1.1, r_101.1.2), r_101.2), ((r_112.1.1, r_112.1.2), r_112.2)]].length) 2)] := hb_150
 refine lN ?_
 refine wret ?_
 cases hm
 replace h_10 := (h_10.gr hg_145).kp hk_148
 replace h_28 := (h_28.gr hg_145).kp hk_148
 replace h_46 := (h_46.gr hg_145).kp hk_148
 replace hst := (hst.grow hg_145).kp hk_148 hs_149
 replace h_146 := h_146.kp hk_148
 exact ⟨rfl, _, res_a rfl rfl Tryz.isAgg28 Tryz.sizeOf28 rfl rfl hb_150.atN, colF w0.heap.size col col_144 (fun n => bif Nat.beq n 2 then c1 else bif Nat.beq n 4 then c2 else bif Nat.beq n 6 then c3 else bif Nat.beq n 17 then c4 else 0), a_6, 2, a_24, 2, a_42, 2, a_142, 2, rfl, hst.fin (fun n => bif Nat.beq n 2 then c1 else bif Nat.beq n 4 then c2 else bif Nat.beq n 6 then c3 else bif Nat.beq n 17 then c4 else 0), hst.finOwn (g := (fun n => bif Nat.beq n 2 then c1 else bif Nat.beq n 4 then c2 else bif Nat.beq n 6 then c3 else bif Nat.beq n 17 then c4 else 0)) rfl h_10 (by decide) (by decide) rfl, hst.finOwn (g := (fun n => bif Nat.beq n 2 then c1 else bif Nat.beq n 4 then c2 else bif Nat.beq n 6 then c3 else bif Nat.beq n 17 then c4 else 0)) rfl h_28 (by decide) (by decide) rfl, hst.finOwn (g := (fun n => bif Nat.beq n 2 then c1 else bif Nat.beq n 4 then c2 else bif Nat.beq n 6 then c3 else bif Nat.beq n 17 then c4 else 0)) rfl h_46 (by decide) (by decide) rfl, hst.finOwn (g := (fun n => bif Nat.beq n 2 then c1 else bif Nat.beq n 4 then c2 else bif Nat.beq n 6 then c3 else bif Nat.beq n 17 then c4 else 0)) rfl h_146 (by decide) (by decide) rfl⟩
def m_slices_Index_string_string_L1 (p1_v : ByteArray) : List ByteArray → Nat → Option Int
  | [], k_1 => some (-1)
  | x_5 :: l_6, k_1 => if (decide (p1_v = x_5)) = true then none else ((m_slices_Index_string_string_L1 p1_v l_6) (k_1 + 1))
termination_by structural x => x
def m_slices_Index_string_string (p0_s : (List ByteArray)) (p1_v : ByteArray) : Option Int :=
  m_slices_Index_string_string_L1 p1_v p0_s 0
theorem c_slices_Index_string_string (col : Col) (w0 : World) (a0 : Option Addr) (cap0 : Nat) (p0_s : (List ByteArray)) (p1_v : ByteArray) (h0 : Sl Rep.str col w0 a0 cap0 p0_s) (r : Int) (hm : m_slices_Index_string_string p0_s p1_v = some r) :
    Calls Tryz.prog 174 #[(.slice a0 p0_s.length cap0), (.string p1_v)] w0 (fun e w' => e = .returned ((.int .i64 r)) ∧ Below w0.heap.size w0 w') := by
 refine calls_of1 4 (m := 19) (args := [(.slice a0 p0_s.length cap0), (.string p1_v)]) Tryz.func174 rfl rfl rfl rfl rfl ?_
 rw [m_slices_Index_string_string.eq_1] at hm
 have hst := St.start col w0
 refine wS (wR ?_)
 refine lA (.int .i64 0) ?_
 refine lN (wS (wS (wR ?_)))
 refine lM (.slice a0 p0_s.length cap0) ?_
 refine lV (.int .i64 (p0_s.length : Int)) (r_len Tryz.underlying23 rfl) ?_
 refine lM (.int .i64 0) ?_
 refine lN (wB ?_)
 replace h0 := h0.keep (Stay.start col w0)
 refine wloop (fun n f w_3 => ∃ (col_4 : Col) (k_1 : Nat) (l_2 : List ByteArray), n = l_2.length ∧ p0_s.drop k_1 = l_2 ∧ m_slices_Index_string_string_L1 p1_v l_2 k_1 = some r ∧ St w0 (col0 col) col_4 w_3 ∧ Sl Rep.str col_4 w_3 a0 cap0 p0_s ∧ f 8 = (.int .i64 (k_1 : Int)) ∧ f 0 = (.slice a0 p0_s.length cap0) ∧ f 1 = (.string p1_v) ∧ f 7 = (.int .i64 (p0_s.length : Int)) ∧ f 1000000 = (enc [])) p0_s.length ⟨(col0 col), 0, p0_s, rfl, rfl, hm, hst, h0, rfl, rfl, rfl, rfl, rfl⟩ ?_
 clear hm; intro n f w_3 hI
 obtain ⟨col_4, k_1, l_2, hn, hl, hm, hst, h0, hs8, hs0, hs1, hs7, hs1000000⟩ := hI
 subst hn
 refine .lD 8 hs8 ?_
 refine .lD 0 hs0 ?_
 refine .lD 1 hs1 ?_
 refine .lD 7 hs7 ?_
 refine .lD 1000000 hs1000000 ?_
 clear hs8 hs0 hs1 hs7 hs1000000
 cases l_2 with
 | nil =>
  have hk : ¬ ((k_1 : Int) < (p0_s.length : Int)) := by have := List.drop_eq_nil_iff.1 hl; omega
  have hkb := decide_eq_false hk
  rw [m_slices_Index_string_string_L1.eq_1] at hm
  refine wS (wR ?_)
  refine lV (.bool (decide ((k_1 : Int) < (p0_s.length : Int)))) (r_lss (k_1 : Int) (p0_s.length : Int) rfl rfl) ?_
  refine lN (wS ?_)
  refine wcondF (congrArg Value.bool hkb) ?_
  refine wexit (inB_hit ?_)
  refine wS (wR ?_)
  refine lA (.int .i64 (-1)) ?_
  refine lN ?_
  refine wret ?_
  cases hm
  exact ⟨rfl, rfl, hst.below⟩
 | cons x_5 l_6 =>
  obtain ⟨hat, hl2_L1, hlt_L1⟩ := drop_get hl
  have hk : (k_1 : Int) < (p0_s.length : Int) := by omega
  have hkb := decide_eq_true hk
  rw [m_slices_Index_string_string_L1.eq_2] at hm
  refine wS (wR ?_)
  refine lV (.bool (decide ((k_1 : Int) < (p0_s.length : Int)))) (r_lss (k_1 : Int) (p0_s.length : Int) rfl rfl) ?_
  refine lN (wS ?_)
  refine wcondT (congrArg Value.bool hkb) ?_
  refine wK (wS (wB (wS (wR ?_))))
  refine lM (.int .i64 (k_1 : Int)) ?_
  refine lA (.int .i64 (k_1 : Int)) ?_
  refine lN (wS (wR ?_))
  refine lM (.string p1_v) ?_
  refine lM (.slice a0 p0_s.length cap0) ?_
  refine lM (.int .i64 (k_1 : Int)) ?_
  refine lV (sptr a0 (Int.toNat (k_1 : Int) * 1)) (r_idx Tryz.underlying23 Tryz.sizeOf9 rfl rfl (at?_some hat).1 (at?_some hat).2.1 (h0.addr hat)) ?_
  refine lV (.string x_5) (r_ld Tryz.isAgg9 rfl (h0.atStr hat)) ?_
  refine lV (.bool (decide (p1_v = x_5))) (r_eqlS p1_v x_5 Tryz.underlying9 rfl rfl) ?_
  refine lN ?_
  refine wcond (decide (p1_v = x_5)) rfl (fun hb => ?_) (fun hb => ?_)
  ·rw [if_pos hb] at hm
   clear hb
   cases hm
  rw [if_neg (by rw [hb]; decide)] at hm
  clear hb
  refine wK (wR ?_)
  refine lV (.int .i64 (IntKind.i64.wrap ((k_1 : Int) + 1))) (r_add (k_1 : Int) 1 rfl rfl) ?_
  refine lM (.int .i64 (IntKind.i64.wrap ((k_1 : Int) + 1))) ?_
  refine lN ?_
  exact ⟨l_6.length, by simp, ⟨col_4, (k_1 + 1), l_6, rfl, hl2_L1, hm, hst, h0, (congrArg (Value.int .i64) (wrap_succ (Nat.lt_of_lt_of_le hlt_L1 h0.1.1))), rfl, rfl, rfl, rfl⟩⟩
def m_slices_Contains_string_string (p0_s : (List ByteArray)) (p1_v : ByteArray) : Option Bool :=
  (m_slices_Index_string_string p0_s p1_v).bind fun r_1 => some (decide (0 ≤ r_1))
theorem c_slices_Contains_string_string (col : Col) (w0 : World) (a0 : Option Addr) (cap0 : Nat) (p0_s : (List ByteArray)) (p1_v : ByteArray) (h0 : Sl Rep.str col w0 a0 cap0 p0_s) (r : Bool) (hm : m_slices_Contains_string_string p0_s p1_v = some r) :
    Calls Tryz.prog 147 #[(.slice a0 p0_s.length cap0), (.string p1_v)] w0 (fun e w' => e = .returned ((.bool r)) ∧ Below w0.heap.size w0 w') := by
 refine calls_of1 4 (m := 9) (args := [(.slice a0 p0_s.length cap0), (.string p1_v)]) Tryz.func147 rfl rfl rfl rfl rfl ?_
 rw [m_slices_Contains_string_string.eq_1] at hm
 have hst := St.start col w0
 refine wS (wR ?_)
 refine lA (.bool false) ?_
 refine lN (wS (wR ?_))
 refine lM (.slice a0 p0_s.length cap0) ?_
 refine lM (.string p1_v) ?_
 obtain ⟨r_1, hr_2, hm⟩ := bS hm
 replace h0 := h0.keep (Stay.start col w0)
 refine lc rfl rfl (r_call2 Tryz.call174 rfl rfl) (c_slices_Index_string_string (col0 col) _ a0 cap0 p0_s p1_v h0 r_1 hr_2) ?_
 rintro _ w_3 ⟨rfl, hg_4⟩
 refine ⟨_, rfl, ?_⟩
 replace hg_4 : Grow (col0 col) w0 (col0 col) w_3 := .of_below hg_4
 refine lV (.bool (decide (0 ≤ r_1))) (r_geq r_1 0 rfl rfl) ?_
 refine lA (.bool (decide (0 ≤ r_1))) ?_
 refine lN ?_
 refine wret ?_
 cases hm
 replace hst := hst.grow hg_4
 exact ⟨rfl, rfl, hst.below⟩
def m_model_twice_L1  : List ByteArray → (List (ByteArray × Int)) → Option Bool
  | [], seen_11 => some false
  | x_13 :: l_14, seen_11 => if (decide (0 < ((mget seen_11 x_13).getD 0))) = true then none else ((some (mput seen_11 x_13 1)).bind fun es_19 => (m_model_twice_L1 l_14) es_19)
termination_by structural x => x
def m_model_twice (p0_l : (List ByteArray)) : Option Bool :=
  m_model_twice_L1 p0_l ([] : List (ByteArray × Int))
theorem c_model_twice (col : Col) (w0 : World) (a0 : Option Addr) (cap0 : Nat) (p0_l : (List ByteArray)) (h0 : Sl Rep.str col w0 a0 cap0 p0_l) (r : Bool) (hm : m_model_twice p0_l = some r) :
    Calls Tryz.prog 148 #[(.slice a0 p0_l.length cap0)] w0 (fun e w' => e = .returned ((.bool r)) ∧ Below w0.heap.size w0 w') := by
 refine calls_of1 2 (m := 20) (args := [(.slice a0 p0_l.length cap0)]) Tryz.func148 rfl rfl rfl rfl rfl ?_
 rw [m_model_twice.eq_1] at hm
 have hst := St.start col w0
 refine wS (wR ?_)
 refine lA (.bool false) ?_
 refine lN (wS (wR ?_))
 refine l_makeMap (col := (col0 col)) (fk := Value.string) (fv := (Value.int .i64)) 1 rfl ?_
 intro g_1 w_2 col_3 hg_4 h_5
 refine lA (.map (some g_1)) ?_
 refine lN (wS (wS (wR ?_)))
 refine lM (.slice a0 p0_l.length cap0) ?_
 refine lV (.int .i64 (p0_l.length : Int)) (r_len Tryz.underlying23 rfl) ?_
 refine lM (.int .i64 0) ?_
 refine lN (wB ?_)
 replace h0 := (h0.keep (Stay.start col w0)).gr hg_4
 replace hst := hst.grow hg_4
 refine wloop (fun n f w_8 => ∃ (col_9 : Col) (g_10 : Nat) (seen_11 : List (ByteArray × Int)) (k_6 : Nat) (l_7 : List ByteArray), n = l_7.length ∧ p0_l.drop k_6 = l_7 ∧ m_model_twice_L1 l_7 seen_11 = some r ∧ St w0 (col0 col) col_9 w_8 ∧ MapO Value.string (Value.int .i64) 1 col_9 w_8 g_10 seen_11 ∧ Sl Rep.str col_9 w_8 a0 cap0 p0_l ∧ f 9 = (.int .i64 (k_6 : Int)) ∧ f 3 = (.map (some g_10)) ∧ f 7 = (.slice a0 p0_l.length cap0) ∧ f 8 = (.int .i64 (p0_l.length : Int)) ∧ f 1000000 = (enc [])) p0_l.length ⟨col_3, g_1, ([] : List (ByteArray × Int)), 0, p0_l, rfl, rfl, hm, hst, h_5, h0, rfl, rfl, rfl, rfl, rfl⟩ ?_
 clear hm; intro n f w_8 hI
 obtain ⟨col_9, g_10, seen_11, k_6, l_7, hn, hl, hm, hst, h_12, h0, hs9, hs3, hs7, hs8, hs1000000⟩ := hI
 subst hn
 refine .lD 9 hs9 ?_
 refine .lD 3 hs3 ?_
 refine .lD 7 hs7 ?_
 refine .lD 8 hs8 ?_
 refine .lD 1000000 hs1000000 ?_
 clear hs9 hs3 hs7 hs8 hs1000000
 cases l_7 with
 | nil =>
  have hk : ¬ ((k_6 : Int) < (p0_l.length : Int)) := by have := List.drop_eq_nil_iff.1 hl; omega
  have hkb := decide_eq_false hk
  rw [m_model_twice_L1.eq_1] at hm
  refine wS (wR ?_)
  refine lV (.bool (decide ((k_6 : Int) < (p0_l.length : Int)))) (r_lss (k_6 : Int) (p0_l.length : Int) rfl rfl) ?_
  refine lN (wS ?_)
  refine wcondF (congrArg Value.bool hkb) ?_
  refine wexit (inB_hit ?_)
  refine wS (wR ?_)
  refine lA (.bool false) ?_
  refine lN ?_
  refine wret ?_
  cases hm
  exact ⟨rfl, rfl, hst.below⟩
 | cons x_13 l_14 =>
  obtain ⟨hat, hl2_L1, hlt_L1⟩ := drop_get hl
  have hk : (k_6 : Int) < (p0_l.length : Int) := by omega
  have hkb := decide_eq_true hk
  rw [m_model_twice_L1.eq_2] at hm
  refine wS (wR ?_)
  refine lV (.bool (decide ((k_6 : Int) < (p0_l.length : Int)))) (r_lss (k_6 : Int) (p0_l.length : Int) rfl rfl) ?_
  refine lN (wS ?_)
  refine wcondT (congrArg Value.bool hkb) ?_
  refine wK (wS (wB (wS (wR ?_))))
  refine lV (sptr a0 (Int.toNat (k_6 : Int) * 1)) (r_idx Tryz.underlying23 Tryz.sizeOf9 rfl rfl (at?_some hat).1 (at?_some hat).2.1 (h0.addr hat)) ?_
  refine lV (.string x_13) (r_ld Tryz.isAgg9 rfl (h0.atStr hat)) ?_
  refine lA (.string x_13) ?_
  refine lN (wS (wS (wR ?_)))
  refine lM (.map (some g_10)) ?_
  refine lM (.string x_13) ?_
  refine lV (.int .i64 ((mget seen_11 x_13).getD 0)) (r_lookup KeyD.str h_12 Tryz.underlying204 Tryz.underlying9 Tryz.zeroValue3 rfl rfl) ?_
  refine lV (.bool (decide (0 < ((mget seen_11 x_13).getD 0)))) (r_gtr ((mget seen_11 x_13).getD 0) 0 rfl rfl) ?_
  refine lN ?_
  refine wcond (decide (0 < ((mget seen_11 x_13).getD 0))) rfl (fun hb => ?_) (fun hb => ?_)
  ·rw [if_pos hb] at hm
   clear hb
   cases hm
  rw [if_neg (by rw [hb]; decide)] at hm
  clear hb
  refine wK (wR ?_)
  refine lM (.map (some g_10)) ?_
  refine lM (.string x_13) ?_
  obtain ⟨es_19, hz_20, hm⟩ := bS hm
  have hz_20 : es_19 = mput seen_11 x_13 1 := (Option.some.inj hz_20).symm
  refine l_mapUpdate (k := x_13) (v := 1) KeyD.str h_12 Tryz.underlying204 Tryz.underlying9 rfl rfl rfl ?_
  intro w_15 hk_16 hs_17 h_18
  rw [← hz_20] at h_18
  clear hz_20
  clear h_12
  refine lN (wR ?_)
  refine lV (.int .i64 (IntKind.i64.wrap ((k_6 : Int) + 1))) (r_add (k_6 : Int) 1 rfl rfl) ?_
  refine lM (.int .i64 (IntKind.i64.wrap ((k_6 : Int) + 1))) ?_
  refine lN ?_
  replace h0 := h0.kp hk_16
  replace hst := hst.kp hk_16 hs_17
  exact ⟨l_14.length, by simp, ⟨col_9, g_10, es_19, (k_6 + 1), l_14, rfl, hl2_L1, hm, hst, h_18, h0, (congrArg (Value.int .i64) (wrap_succ (Nat.lt_of_lt_of_le hlt_L1 h0.1.1))), rfl, rfl, rfl, rfl⟩⟩
def m_model_named_J1 (p0_n : (ByteArray × (List ByteArray) × (List (List ByteArray)) × (List (List Int)) × (List (List ((Bool × (List Int)) × (List Int)))))) (k_6 : Nat) (kk_L1 : (Nat → Option Int)) (v_48 : Bool) : Option Int :=
  if v_48 = true then none else ((at? p0_n.2.2.1 (k_6 : Int)).bind fun e_49 => if (decide ((e_49.length : Int) = 0)) = true then none else (kk_L1 (k_6 + 1)))
def m_model_named_L1 (p0_n : (ByteArray × (List ByteArray) × (List (List ByteArray)) × (List (List Int)) × (List (List ((Bool × (List Int)) × (List Int)))))) : List ByteArray → Nat → Option Int
  | [], k_6 => some 0
  | x_10 :: l_11, k_6 => chk ((0 : Int) ≤ (k_6 : Int) ∧ (k_6 : Int) ≤ (p0_n.2.1.length : Int)) ((m_slices_Contains_string_string (p0_n.2.1.take (Int.toNat (k_6 : Int))) x_10).bind fun r_57 => if r_57 = true then (m_model_named_J1 p0_n k_6 (m_model_named_L1 p0_n l_11) true) else ((at? p0_n.2.2.1 (k_6 : Int)).bind fun e_62 => (m_model_twice e_62).bind fun r_69 => m_model_named_J1 p0_n k_6 (m_model_named_L1 p0_n l_11) r_69))
termination_by structural x => x
def m_model_named (p0_n : (ByteArray × (List ByteArray) × (List (List ByteArray)) × (List (List Int)) × (List (List ((Bool × (List Int)) × (List Int)))))) : Option Int :=
  m_model_named_L1 p0_n p0_n.2.1 0
theorem c_model_named (col : Col) (w0 : World) (a0_0 : Option Addr) (cap0_0 : Nat) (a0_2 : Option Addr) (cap0_2 : Nat) (a0_4 : Option Addr) (cap0_4 : Nat) (a0_6 : Option Addr) (cap0_6 : Nat) (p0_n : (ByteArray × (List ByteArray) × (List (List ByteArray)) × (List (List Int)) × (List (List ((Bool × (List Int)) × (List Int)))))) (h0_0 : Sl Rep.str col w0 a0_0 cap0_0 p0_n.2.1) (h0_2 : Sl (Rep.slice Rep.str) col w0 a0_2 cap0_2 p0_n.2.2.1) (h0_4 : Sl (Rep.slice (Rep.int .i64)) col w0 a0_4 cap0_4 p0_n.2.2.2.1) (h0_6 : Sl (Rep.slice (Rep.pair (Rep.pair Rep.bool (Rep.slice (Rep.int .u32))) (Rep.slice (Rep.int .u32)))) col w0 a0_6 cap0_6 p0_n.2.2.2.2) (r : Int) (hm : m_model_named p0_n = some r) :
    Calls Tryz.prog 114 #[(.agg #[(.string p0_n.1), (.slice a0_0 p0_n.2.1.length cap0_0), (.slice a0_2 p0_n.2.2.1.length cap0_2), (.slice a0_4 p0_n.2.2.2.1.length cap0_4), (.slice a0_6 p0_n.2.2.2.2.length cap0_6)])] w0 (fun e w' => e = .returned ((.int .i64 r)) ∧ Below w0.heap.size w0 w') := by
 refine calls_of1 2 (m := 37) (args := [(.agg #[(.string p0_n.1), (.slice a0_0 p0_n.2.1.length cap0_0), (.slice a0_2 p0_n.2.2.1.length cap0_2), (.slice a0_4 p0_n.2.2.2.1.length cap0_4), (.slice a0_6 p0_n.2.2.2.2.length cap0_6)])]) Tryz.func114 rfl rfl rfl rfl rfl ?_
 rw [m_model_named.eq_1] at hm
 have hst := St.start col w0
 refine wS (wR ?_)
 refine l_box (col := (col0 col)) (v := (.agg #[(.string p0_n.1), (.slice a0_0 p0_n.2.1.length cap0_0), (.slice a0_2 p0_n.2.2.1.length cap0_2), (.slice a0_4 p0_n.2.2.2.1.length cap0_4), (.slice a0_6 p0_n.2.2.2.2.length cap0_6)])) 1 rfl rfl ?_
 intro g_1 w_2 col_3 hg_4 hb_5
 replace hb_5 : Box 28 1 col_3 w_2 g_1 #[(.string p0_n.1), (.slice a0_0 p0_n.2.1.length cap0_0), (.slice a0_2 p0_n.2.2.1.length cap0_2), (.slice a0_4 p0_n.2.2.2.1.length cap0_4), (.slice a0_6 p0_n.2.2.2.2.length cap0_6)] := hb_5
 refine lA (.int .i64 0) ?_
 refine lN (wS (wS (wR ?_)))
 refine lV (.pointer ((some (⟨g_1, 0, none⟩ : Addr)).map (·.add 1))) (rF (sz := 1) (off := 1) Tryz.underlying28 rfl Tryz.sizeOf23 (by decide) rfl rfl ⟨_, _, rfl⟩) ?_
 refine lV (.slice a0_0 p0_n.2.1.length cap0_0) (r_ld Tryz.isAgg23 rfl ((hb_5.atN).nth (q := 1) (v := (.slice a0_0 p0_n.2.1.length cap0_0)) rfl)) ?_
 refine lV (.int .i64 (p0_n.2.1.length : Int)) (r_len Tryz.underlying23 rfl) ?_
 refine lM (.int .i64 0) ?_
 refine lN (wB ?_)
 replace h0_0 := (h0_0.keep (Stay.start col w0)).gr hg_4
 replace h0_2 := (h0_2.keep (Stay.start col w0)).gr hg_4
 replace h0_4 := (h0_4.keep (Stay.start col w0)).gr hg_4
 replace h0_6 := (h0_6.keep (Stay.start col w0)).gr hg_4
 replace hst := hst.grow hg_4
 refine wloop (fun n f w_8 => ∃ (col_9 : Col) (k_6 : Nat) (l_7 : List ByteArray), n = l_7.length ∧ p0_n.2.1.drop k_6 = l_7 ∧ m_model_named_L1 p0_n l_7 k_6 = some r ∧ St w0 (col0 col) col_9 w_8 ∧ Sl Rep.str col_9 w_8 a0_0 cap0_0 p0_n.2.1 ∧ Sl (Rep.slice Rep.str) col_9 w_8 a0_2 cap0_2 p0_n.2.2.1 ∧ Sl (Rep.slice (Rep.int .i64)) col_9 w_8 a0_4 cap0_4 p0_n.2.2.2.1 ∧ Sl (Rep.slice (Rep.pair (Rep.pair Rep.bool (Rep.slice (Rep.int .u32))) (Rep.slice (Rep.int .u32)))) col_9 w_8 a0_6 cap0_6 p0_n.2.2.2.2 ∧ Box 28 1 col_9 w_8 g_1 #[(.string p0_n.1), (.slice a0_0 p0_n.2.1.length cap0_0), (.slice a0_2 p0_n.2.2.1.length cap0_2), (.slice a0_4 p0_n.2.2.2.1.length cap0_4), (.slice a0_6 p0_n.2.2.2.2.length cap0_6)] ∧ f 8 = (.int .i64 (k_6 : Int)) ∧ f 1 = (.pointer (some ⟨g_1, 0, none⟩)) ∧ f 6 = (.slice a0_0 p0_n.2.1.length cap0_0) ∧ f 7 = (.int .i64 (p0_n.2.1.length : Int)) ∧ f 1000000 = (enc [])) p0_n.2.1.length ⟨col_3, 0, p0_n.2.1, rfl, rfl, hm, hst, h0_0, h0_2, h0_4, h0_6, hb_5, rfl, rfl, rfl, rfl, rfl⟩ ?_
 clear hm; intro n f w_8 hI
 obtain ⟨col_9, k_6, l_7, hn, hl, hm, hst, h0_0, h0_2, h0_4, h0_6, hb_5, hs8, hs1, hs6, hs7, hs1000000⟩ := hI
 subst hn
 refine .lD 8 hs8 ?_
 refine .lD 1 hs1 ?_
 refine .lD 6 hs6 ?_
 refine .lD 7 hs7 ?_
 refine .lD 1000000 hs1000000 ?_
 clear hs8 hs1 hs6 hs7 hs1000000
 cases l_7 with
 | nil =>
  have hk : ¬ ((k_6 : Int) < (p0_n.2.1.length : Int)) := by have := List.drop_eq_nil_iff.1 hl; omega
  have hkb := decide_eq_false hk
  rw [m_model_named_L1.eq_1] at hm
  refine wS (wR ?_)
  refine lV (.bool (decide ((k_6 : Int) < (p0_n.2.1.length : Int)))) (r_lss (k_6 : Int) (p0_n.2.1.length : Int) rfl rfl) ?_
  refine lN (wS ?_)
  refine wcondF (congrArg Value.bool hkb) ?_
  refine wexit (inB_hit ?_)
  refine wS (wR ?_)
  refine lA (.int .i64 0) ?_
  refine lN ?_
  refine wret ?_
  cases hm
  exact ⟨rfl, rfl, hst.below⟩
 | cons x_10 l_11 =>
  obtain ⟨hat, hl2_L1, hlt_L1⟩ := drop_get hl
  have hk : (k_6 : Int) < (p0_n.2.1.length : Int) := by omega
  have hkb := decide_eq_true hk
  rw [m_model_named_L1.eq_2] at hm
  refine wS (wR ?_)
  refine lV (.bool (decide ((k_6 : Int) < (p0_n.2.1.length : Int)))) (r_lss (k_6 : Int) (p0_n.2.1.length : Int) rfl rfl) ?_
  refine lN (wS ?_)
  refine wcondT (congrArg Value.bool hkb) ?_
  refine wK (wS (wB (wS (wR ?_))))
  refine lM (.int .i64 (k_6 : Int)) ?_
  refine lV (sptr a0_0 (Int.toNat (k_6 : Int) * 1)) (r_idx Tryz.underlying23 Tryz.sizeOf9 rfl rfl (at?_some hat).1 (at?_some hat).2.1 (h0_0.addr hat)) ?_
  refine lV (.string x_10) (r_ld Tryz.isAgg9 rfl (h0_0.atStr hat)) ?_
  refine lA (.int .i64 (k_6 : Int)) ?_
  refine lA (.string x_10) ?_
  refine lN (wB (wS ?_))
  refine Wp.cut (fun f w_46 => ∃ (col_47 : Col) (v_48 : Bool), m_model_named_J1 p0_n k_6 (m_model_named_L1 p0_n l_11) v_48 = some r ∧ St w0 (col0 col) col_47 w_46 ∧ Sl Rep.str col_47 w_46 a0_0 cap0_0 p0_n.2.1 ∧ Sl (Rep.slice Rep.str) col_47 w_46 a0_2 cap0_2 p0_n.2.2.1 ∧ Sl (Rep.slice (Rep.int .i64)) col_47 w_46 a0_4 cap0_4 p0_n.2.2.2.1 ∧ Sl (Rep.slice (Rep.pair (Rep.pair Rep.bool (Rep.slice (Rep.int .u32))) (Rep.slice (Rep.int .u32)))) col_47 w_46 a0_6 cap0_6 p0_n.2.2.2.2 ∧ Box 28 1 col_47 w_46 g_1 #[(.string p0_n.1), (.slice a0_0 p0_n.2.1.length cap0_0), (.slice a0_2 p0_n.2.2.1.length cap0_2), (.slice a0_4 p0_n.2.2.2.1.length cap0_4), (.slice a0_6 p0_n.2.2.2.2.length cap0_6)] ∧ f 1 = (.pointer (some ⟨g_1, 0, none⟩)) ∧ f 13 = (.bool v_48) ∧ f 3 = (.int .i64 (k_6 : Int)) ∧ f 6 = (.slice a0_0 p0_n.2.1.length cap0_0) ∧ f 7 = (.int .i64 (p0_n.2.1.length : Int)) ∧ f 8 = (.int .i64 (k_6 : Int)) ∧ f 1000000 = (enc [])) ?_ ?_
  ·intro f w_46 hJ
   obtain ⟨col_47, v_48, hm, hst, h0_0, h0_2, h0_4, h0_6, hb_5, hs1, hs13, hs3, hs6, hs7, hs8, hs1000000⟩ := hJ
   rw [m_model_named_J1.eq_1] at hm
   refine .lD 1 hs1 ?_
   refine .lD 13 hs13 ?_
   refine .lD 3 hs3 ?_
   refine .lD 6 hs6 ?_
   refine .lD 7 hs7 ?_
   refine .lD 8 hs8 ?_
   refine .lD 1000000 hs1000000 ?_
   clear hs1 hs13 hs3 hs6 hs7 hs8 hs1000000
   refine wcond (v_48) rfl (fun hb => ?_) (fun hb => ?_)
   ·rw [if_pos hb] at hm
    clear hb
    cases hm
   rw [if_neg (by rw [hb]; decide)] at hm
   clear hb
   refine wS (wR ?_)
   refine lV (.pointer ((some (⟨g_1, 0, none⟩ : Addr)).map (·.add 2))) (rF (sz := 1) (off := 2) Tryz.underlying28 rfl Tryz.sizeOf24 (by decide) rfl rfl ⟨_, _, rfl⟩) ?_
   refine lV (.slice a0_2 p0_n.2.2.1.length cap0_2) (r_ld Tryz.isAgg24 rfl ((hb_5.atN).nth (q := 2) (v := (.slice a0_2 p0_n.2.2.1.length cap0_2)) rfl)) ?_
   refine lM (.int .i64 (k_6 : Int)) ?_
   obtain ⟨e_49, hj_50, hm⟩ := bS hm
   refine lV (sptr a0_2 (Int.toNat (k_6 : Int) * 1)) (r_idx Tryz.underlying24 Tryz.sizeOf23 rfl rfl (at?_some hj_50).1 (at?_some hj_50).2.1 (h0_2.addr hj_50)) ?_
   obtain ⟨_, hr_51, hA_52⟩ := h0_2.atN hj_50
   obtain ⟨⟨a_53, cap_54, rfl, h_55⟩, _⟩ := hr_51
   refine lV (.slice a_53 e_49.length cap_54) (r_ld Tryz.isAgg23 rfl hA_52.one) ?_
   refine lV (.int .i64 (e_49.length : Int)) (r_len Tryz.underlying23 rfl) ?_
   refine lV (.bool (decide ((e_49.length : Int) = 0))) (r_eql (e_49.length : Int) 0 rfl rfl) ?_
   refine lA (.bool (decide ((e_49.length : Int) = 0))) ?_
   refine lN ?_
   refine wcond (decide ((e_49.length : Int) = 0)) rfl (fun hb => ?_) (fun hb => ?_)
   ·rw [if_pos hb] at hm
    clear hb
    cases hm
   rw [if_neg (by rw [hb]; decide)] at hm
   clear hb
   refine wK (wR ?_)
   refine lV (.int .i64 (IntKind.i64.wrap ((k_6 : Int) + 1))) (r_add (k_6 : Int) 1 rfl rfl) ?_
   refine lM (.int .i64 (IntKind.i64.wrap ((k_6 : Int) + 1))) ?_
   refine lN ?_
   exact ⟨l_11.length, by simp, ⟨col_47, (k_6 + 1), l_11, rfl, hl2_L1, hm, hst, h0_0, h0_2, h0_4, h0_6, hb_5, (congrArg (Value.int .i64) (wrap_succ (Nat.lt_of_lt_of_le hlt_L1 h0_0.1.1))), rfl, rfl, rfl, rfl⟩⟩
  refine wR ?_
  refine lV (.pointer ((some (⟨g_1, 0, none⟩ : Addr)).map (·.add 1))) (rF (sz := 1) (off := 1) Tryz.underlying28 rfl Tryz.sizeOf23 (by decide) rfl rfl ⟨_, _, rfl⟩) ?_
  refine lV (.slice a0_0 p0_n.2.1.length cap0_0) (r_ld Tryz.isAgg23 rfl ((hb_5.atN).nth (q := 1) (v := (.slice a0_0 p0_n.2.1.length cap0_0)) rfl)) ?_
  refine lM (.int .i64 (k_6 : Int)) ?_
  obtain ⟨hb_56, hm⟩ := cS hm
  refine lv (v := .slice a0_0 (Int.toNat (k_6 : Int)) cap0_0) rfl rfl (r_sliceH Tryz.underlying23 Tryz.sizeOf9 rfl rfl hb_56.1 (by have := h0_0.1.2; have := hb_56.2; omega)) ?_
  refine .ld (d := 17) (v := (.slice a0_0 ((p0_n.2.1.take (Int.toNat (k_6 : Int))).length) cap0_0)) (congrArg (fun n => Value.slice a0_0 n cap0_0) (List.length_take_of_le (show (Int.toNat (k_6 : Int)) ≤ p0_n.2.1.length by have := hb_56.2; omega)).symm) ?_
  refine lM (.string x_10) ?_
  obtain ⟨r_57, hr_58, hm⟩ := bS hm
  refine lc rfl rfl (r_call2 Tryz.call147 rfl rfl) (c_slices_Contains_string_string col_9 _ a0_0 cap0_0 (p0_n.2.1.take (Int.toNat (k_6 : Int))) x_10 (h0_0.take (Int.toNat (k_6 : Int))) r_57 hr_58) ?_
  rintro _ w_59 ⟨rfl, hg_60⟩
  refine ⟨_, rfl, ?_⟩
  replace hg_60 : Grow col_9 w_8 col_9 w_59 := .of_below hg_60
  refine lM (.bool r_57) ?_
  replace h0_0 := h0_0.gr hg_60
  replace h0_2 := h0_2.gr hg_60
  replace h0_4 := h0_4.gr hg_60
  replace h0_6 := h0_6.gr hg_60
  replace hb_5 := hb_5.gr hg_60
  replace hst := hst.grow hg_60
  by_cases hg_61 : r_57 = true
  ·rw [if_pos hg_61] at hm
   refine lp (b := r_57) 20 rfl rfl rfl rfl (by rw [hg_61]; rfl) ?_
   refine lp (b := r_57) 20 rfl rfl rfl rfl (by rw [hg_61]; rfl) ?_
   refine lp (b := r_57) 20 rfl rfl rfl rfl (by rw [hg_61]; rfl) ?_
   refine lp (b := r_57) 20 rfl rfl rfl rfl (by rw [hg_61]; rfl) ?_
   refine lp (b := r_57) 20 rfl rfl rfl rfl (by rw [hg_61]; rfl) ?_
   refine lp (b := r_57) 20 rfl rfl rfl rfl (by rw [hg_61]; rfl) ?_
   refine lV (.bool true) (r_pickT (congrArg Value.bool hg_61) rfl) ?_
   refine lA (.bool true) ?_
   refine lN ?_
   exact ⟨col_9, true, hm, hst, h0_0, h0_2, h0_4, h0_6, hb_5, rfl, rfl, rfl, rfl, rfl, rfl, rfl⟩
  rw [if_neg hg_61] at hm
  replace hg_61 := Bool.eq_false_iff.2 hg_61
  refine lg (b := r_57) 20 rfl rfl rfl (by rw [hg_61]; rfl) ?_
  refine lV (.pointer ((some (⟨g_1, 0, none⟩ : Addr)).map (·.add 2))) (rF (sz := 1) (off := 2) Tryz.underlying28 rfl Tryz.sizeOf24 (by decide) rfl rfl ⟨_, _, rfl⟩) ?_
  refine lg (b := r_57) 20 rfl rfl rfl (by rw [hg_61]; rfl) ?_
  refine lV (.slice a0_2 p0_n.2.2.1.length cap0_2) (r_ld Tryz.isAgg24 rfl ((hb_5.atN).nth (q := 2) (v := (.slice a0_2 p0_n.2.2.1.length cap0_2)) rfl)) ?_
  refine lg (b := r_57) 20 rfl rfl rfl (by rw [hg_61]; rfl) ?_
  refine lM (.int .i64 (k_6 : Int)) ?_
  refine lg (b := r_57) 20 rfl rfl rfl (by rw [hg_61]; rfl) ?_
  obtain ⟨e_62, hj_63, hm⟩ := bS hm
  refine lV (sptr a0_2 (Int.toNat (k_6 : Int) * 1)) (r_idx Tryz.underlying24 Tryz.sizeOf23 rfl rfl (at?_some hj_63).1 (at?_some hj_63).2.1 (h0_2.addr hj_63)) ?_
  refine lg (b := r_57) 20 rfl rfl rfl (by rw [hg_61]; rfl) ?_
  obtain ⟨_, hr_64, hA_65⟩ := h0_2.atN hj_63
  obtain ⟨⟨a_66, cap_67, rfl, h_68⟩, _⟩ := hr_64
  refine lV (.slice a_66 e_62.length cap_67) (r_ld Tryz.isAgg23 rfl hA_65.one) ?_
  refine lg (b := r_57) 20 rfl rfl rfl (by rw [hg_61]; rfl) ?_
  obtain ⟨r_69, hr_70, hm⟩ := bS hm
  refine lc rfl rfl (r_call1 Tryz.call148 rfl) (c_model_twice col_9 _ a_66 cap_67 e_62 h_68 r_69 hr_70) ?_
  rintro _ w_71 ⟨rfl, hg_72⟩
  refine ⟨_, rfl, ?_⟩
  replace hg_72 : Grow col_9 w_59 col_9 w_71 := .of_below hg_72
  refine lV (.bool r_69) (r_pickF (congrArg Value.bool hg_61) rfl) ?_
  refine lA (.bool r_69) ?_
  refine lN ?_
  replace h0_0 := h0_0.gr hg_72
  replace h0_2 := h0_2.gr hg_72
  replace h0_4 := h0_4.gr hg_72
  replace h0_6 := h0_6.gr hg_72
  replace hb_5 := hb_5.gr hg_72
  replace hst := hst.grow hg_72
  exact ⟨col_9, r_69, hm, hst, h0_0, h0_2, h0_4, h0_6, hb_5, rfl, rfl, rfl, rfl, rfl, rfl, rfl⟩
def m_dag_fits_L3 (kk_L2 : (Option Int)) : List Int → (List (Int × Int)) → Option Int
  | [], seen_28 => kk_L2 
  | x_30 :: l_31, seen_28 => if (decide (0 < ((mget seen_28 x_30).getD 0))) = true then none else ((some (mput seen_28 x_30 1)).bind fun es_36 => (m_dag_fits_L3 kk_L2 l_31) es_36)
termination_by structural x => x
def m_dag_fits_L2  : List (List Int) → Option Int
  | [] => some 0
  | x_11 :: l_12 => m_dag_fits_L3 (m_dag_fits_L2 l_12) x_11 ([] : List (Int × Int))
termination_by structural x => x
def m_dag_fits_J1 (kk_L4 : (Option Int)) (v_53 : Bool) : Option Int :=
  if v_53 = true then none else kk_L4
def m_dag_fits_L4 (p0_parents : (List (List Int))) (kk_L1 : (Option Int)) : List Int → Option Int
  | [] => kk_L1 
  | x_47 :: l_48 => if (decide (x_47 < 0)) = true then (m_dag_fits_J1 (m_dag_fits_L4 p0_parents kk_L1 l_48) true) else (m_dag_fits_J1 (m_dag_fits_L4 p0_parents kk_L1 l_48) (decide ((p0_parents.length : Int) ≤ x_47)))
termination_by structural x => x
def m_dag_fits_L1 (p0_parents : (List (List Int))) : List (List Int) → Option Int
  | [] => m_dag_fits_L2 p0_parents 
  | x_5 :: l_6 => m_dag_fits_L4 p0_parents (m_dag_fits_L1 p0_parents l_6) x_5 
termination_by structural x => x
def m_dag_fits (p0_parents : (List (List Int))) : Option Int :=
  m_dag_fits_L1 p0_parents p0_parents 
theorem c_dag_fits (col : Col) (w0 : World) (a0 : Option Addr) (cap0 : Nat) (p0_parents : (List (List Int))) (h0 : Sl (Rep.slice (Rep.int .i64)) col w0 a0 cap0 p0_parents) (r : Int) (hm : m_dag_fits p0_parents = some r) :
    Calls Tryz.prog 121 #[(.slice a0 p0_parents.length cap0)] w0 (fun e w' => e = .returned ((.int .i64 r)) ∧ Below w0.heap.size w0 w') := by
 refine calls_of1 2 (m := 57) (args := [(.slice a0 p0_parents.length cap0)]) Tryz.func121 rfl rfl rfl rfl rfl ?_
 rw [m_dag_fits.eq_1] at hm
 have hst := St.start col w0
 refine wS (wR ?_)
 refine lA (.int .i64 0) ?_
 refine lN (wS (wS (wR ?_)))
 refine lM (.slice a0 p0_parents.length cap0) ?_
 refine lV (.int .i64 (p0_parents.length : Int)) (r_len Tryz.underlying25 rfl) ?_
 refine lM (.int .i64 0) ?_
 refine lN (wB ?_)
 replace h0 := h0.keep (Stay.start col w0)
 refine wloop (fun n f w_3 => ∃ (col_4 : Col) (k_1 : Nat) (l_2 : List (List Int)), n = l_2.length ∧ p0_parents.drop k_1 = l_2 ∧ m_dag_fits_L1 p0_parents l_2  = some r ∧ St w0 (col0 col) col_4 w_3 ∧ Sl (Rep.slice (Rep.int .i64)) col_4 w_3 a0 cap0 p0_parents ∧ f 14 = (.int .i64 (k_1 : Int)) ∧ f 0 = (.slice a0 p0_parents.length cap0) ∧ f 12 = (.slice a0 p0_parents.length cap0) ∧ f 13 = (.int .i64 (p0_parents.length : Int)) ∧ f 1000000 = (enc [])) p0_parents.length ⟨(col0 col), 0, p0_parents, rfl, rfl, hm, hst, h0, rfl, rfl, rfl, rfl, rfl⟩ ?_
 clear hm; intro n f w_3 hI
 obtain ⟨col_4, k_1, l_2, hn, hl, hm, hst, h0, hs14, hs0, hs12, hs13, hs1000000⟩ := hI
 subst hn
 refine .lD 14 hs14 ?_
 refine .lD 0 hs0 ?_
 refine .lD 12 hs12 ?_
 refine .lD 13 hs13 ?_
 refine .lD 1000000 hs1000000 ?_
 clear hs14 hs0 hs12 hs13 hs1000000
 cases l_2 with
 | nil =>
  have hk : ¬ ((k_1 : Int) < (p0_parents.length : Int)) := by have := List.drop_eq_nil_iff.1 hl; omega
  have hkb := decide_eq_false hk
  rw [m_dag_fits_L1.eq_1] at hm
  refine wS (wR ?_)
  refine lV (.bool (decide ((k_1 : Int) < (p0_parents.length : Int)))) (r_lss (k_1 : Int) (p0_parents.length : Int) rfl rfl) ?_
  refine lN (wS ?_)
  refine wcondF (congrArg Value.bool hkb) ?_
  refine wexit (inB_hit ?_)
  refine wS (wS (wR ?_))
  refine lM (.slice a0 p0_parents.length cap0) ?_
  refine lV (.int .i64 (p0_parents.length : Int)) (r_len Tryz.underlying25 rfl) ?_
  refine lM (.int .i64 0) ?_
  refine lN (wB ?_)
  refine wloop (fun n f w_9 => ∃ (col_10 : Col) (k_7 : Nat) (l_8 : List (List Int)), n = l_8.length ∧ p0_parents.drop k_7 = l_8 ∧ m_dag_fits_L2 l_8  = some r ∧ St w0 (col0 col) col_10 w_9 ∧ Sl (Rep.slice (Rep.int .i64)) col_10 w_9 a0 cap0 p0_parents ∧ f 36 = (.int .i64 (k_7 : Int)) ∧ f 34 = (.slice a0 p0_parents.length cap0) ∧ f 35 = (.int .i64 (p0_parents.length : Int)) ∧ f 1000000 = (enc [])) p0_parents.length ⟨col_4, 0, p0_parents, rfl, rfl, hm, hst, h0, rfl, rfl, rfl, rfl⟩ ?_
  clear hm; intro n f w_9 hI
  obtain ⟨col_10, k_7, l_8, hn, hl, hm, hst, h0, hs36, hs34, hs35, hs1000000⟩ := hI
  subst hn
  refine .lD 36 hs36 ?_
  refine .lD 34 hs34 ?_
  refine .lD 35 hs35 ?_
  refine .lD 1000000 hs1000000 ?_
  clear hs36 hs34 hs35 hs1000000
  cases l_8 with
  | nil =>
   have hk : ¬ ((k_7 : Int) < (p0_parents.length : Int)) := by have := List.drop_eq_nil_iff.1 hl; omega
   have hkb := decide_eq_false hk
   rw [m_dag_fits_L2.eq_1] at hm
   refine wS (wR ?_)
   refine lV (.bool (decide ((k_7 : Int) < (p0_parents.length : Int)))) (r_lss (k_7 : Int) (p0_parents.length : Int) rfl rfl) ?_
   refine lN (wS ?_)
   refine wcondF (congrArg Value.bool hkb) ?_
   refine wexit (inB_hit ?_)
   refine wS (wR ?_)
   refine lA (.int .i64 0) ?_
   refine lN ?_
   refine wret ?_
   cases hm
   exact ⟨rfl, rfl, hst.below⟩
  | cons x_11 l_12 =>
   obtain ⟨hat, hl2_L2, hlt_L2⟩ := drop_get hl
   have hk : (k_7 : Int) < (p0_parents.length : Int) := by omega
   have hkb := decide_eq_true hk
   rw [m_dag_fits_L2.eq_2] at hm
   refine wS (wR ?_)
   refine lV (.bool (decide ((k_7 : Int) < (p0_parents.length : Int)))) (r_lss (k_7 : Int) (p0_parents.length : Int) rfl rfl) ?_
   refine lN (wS ?_)
   refine wcondT (congrArg Value.bool hkb) ?_
   refine wK (wS (wB (wS (wR ?_))))
   refine lV (sptr a0 (Int.toNat (k_7 : Int) * 1)) (r_idx Tryz.underlying25 Tryz.sizeOf33 rfl rfl (at?_some hat).1 (at?_some hat).2.1 (h0.addr hat)) ?_
   obtain ⟨_, hr_13, hA_14⟩ := h0.atN hat
   obtain ⟨⟨a_15, cap_16, rfl, h_17⟩, _⟩ := hr_13
   refine lV (.slice a_15 x_11.length cap_16) (r_ld Tryz.isAgg33 rfl hA_14.one) ?_
   refine lA (.slice a_15 x_11.length cap_16) ?_
   refine lN (wS (wR ?_))
   refine lM (.slice a_15 x_11.length cap_16) ?_
   refine lV (.int .i64 (x_11.length : Int)) (r_len Tryz.underlying33 rfl) ?_
   refine l_makeMapN (col := col_10) (fk := (Value.int .i64)) (fv := (Value.int .i64)) 1 rfl Tryz.underlying183 rfl ?_
   intro g_18 w_19 col_20 hg_21 h_22
   refine lA (.map (some g_18)) ?_
   refine lN (wS (wR ?_))
   refine lM (.slice a_15 x_11.length cap_16) ?_
   refine lV (.int .i64 (x_11.length : Int)) (r_len Tryz.underlying33 rfl) ?_
   refine lM (.int .i64 0) ?_
   refine lN (wB ?_)
   replace h0 := h0.gr hg_21
   replace h_17 := h_17.gr hg_21
   replace hst := hst.grow hg_21
   refine wloop (fun n f w_25 => ∃ (col_26 : Col) (k_23 : Nat) (g_27 : Nat) (seen_28 : List (Int × Int)) (l_24 : List Int), n = l_24.length ∧ x_11.drop k_23 = l_24 ∧ m_dag_fits_L3 (m_dag_fits_L2 l_12) l_24 seen_28 = some r ∧ St w0 (col0 col) col_26 w_25 ∧ Sl (Rep.slice (Rep.int .i64)) col_26 w_25 a0 cap0 p0_parents ∧ Sl (Rep.int .i64) col_26 w_25 a_15 cap_16 x_11 ∧ MapO (Value.int .i64) (Value.int .i64) 1 col_26 w_25 g_27 seen_28 ∧ f 45 = (.int .i64 (k_23 : Int)) ∧ f 34 = (.slice a0 p0_parents.length cap0) ∧ f 35 = (.int .i64 (p0_parents.length : Int)) ∧ f 36 = (.int .i64 (k_7 : Int)) ∧ f 43 = (.slice a_15 x_11.length cap_16) ∧ f 44 = (.int .i64 (x_11.length : Int)) ∧ f 9 = (.map (some g_27)) ∧ f 1000000 = (enc [])) x_11.length ⟨col_20, 0, g_18, ([] : List (Int × Int)), x_11, rfl, rfl, hm, hst, h0, h_17, h_22, rfl, rfl, rfl, rfl, rfl, rfl, rfl, rfl⟩ ?_
   clear hm; intro n f w_25 hI
   obtain ⟨col_26, k_23, g_27, seen_28, l_24, hn, hl, hm, hst, h0, h_17, h_29, hs45, hs34, hs35, hs36, hs43, hs44, hs9, hs1000000⟩ := hI
   subst hn
   refine .lD 45 hs45 ?_
   refine .lD 34 hs34 ?_
   refine .lD 35 hs35 ?_
   refine .lD 36 hs36 ?_
   refine .lD 43 hs43 ?_
   refine .lD 44 hs44 ?_
   refine .lD 9 hs9 ?_
   refine .lD 1000000 hs1000000 ?_
   clear hs45 hs34 hs35 hs36 hs43 hs44 hs9 hs1000000
   cases l_24 with
   | nil =>
    have hk : ¬ ((k_23 : Int) < (x_11.length : Int)) := by have := List.drop_eq_nil_iff.1 hl; omega
    have hkb := decide_eq_false hk
    rw [m_dag_fits_L3.eq_1] at hm
    refine wS (wR ?_)
    refine lV (.bool (decide ((k_23 : Int) < (x_11.length : Int)))) (r_lss (k_23 : Int) (x_11.length : Int) rfl rfl) ?_
    refine lN (wS ?_)
    refine wcondF (congrArg Value.bool hkb) ?_
    refine wexit (inB_hit ?_)
    refine wR ?_
    refine lV (.int .i64 (IntKind.i64.wrap ((k_7 : Int) + 1))) (r_add (k_7 : Int) 1 rfl rfl) ?_
    refine lM (.int .i64 (IntKind.i64.wrap ((k_7 : Int) + 1))) ?_
    refine lN ?_
    exact ⟨l_12.length, by simp, ⟨col_26, (k_7 + 1), l_12, rfl, hl2_L2, hm, hst, h0, (congrArg (Value.int .i64) (wrap_succ (Nat.lt_of_lt_of_le hlt_L2 h0.1.1))), rfl, rfl, rfl⟩⟩
   | cons x_30 l_31 =>
    obtain ⟨hat, hl2_L3, hlt_L3⟩ := drop_get hl
    have hk : (k_23 : Int) < (x_11.length : Int) := by omega
    have hkb := decide_eq_true hk
    rw [m_dag_fits_L3.eq_2] at hm
    refine wS (wR ?_)
    refine lV (.bool (decide ((k_23 : Int) < (x_11.length : Int)))) (r_lss (k_23 : Int) (x_11.length : Int) rfl rfl) ?_
    refine lN (wS ?_)
    refine wcondT (congrArg Value.bool hkb) ?_
    refine wK (wS (wB (wS (wR ?_))))
    refine lV (sptr a_15 (Int.toNat (k_23 : Int) * 1)) (r_idx Tryz.underlying33 Tryz.sizeOf3 rfl rfl (at?_some hat).1 (at?_some hat).2.1 (h_17.addr hat)) ?_
    refine lV (.int .i64 x_30) (r_ld Tryz.isAgg3 rfl (h_17.atInt hat)) ?_
    refine lA (.int .i64 x_30) ?_
    refine lN (wS (wS (wR ?_)))
    refine lM (.map (some g_27)) ?_
    refine lM (.int .i64 x_30) ?_
    refine lV (.int .i64 ((mget seen_28 x_30).getD 0)) (r_lookup KeyD.int h_29 Tryz.underlying183 Tryz.underlying3 Tryz.zeroValue3 rfl rfl) ?_
    refine lV (.bool (decide (0 < ((mget seen_28 x_30).getD 0)))) (r_gtr ((mget seen_28 x_30).getD 0) 0 rfl rfl) ?_
    refine lN ?_
    refine wcond (decide (0 < ((mget seen_28 x_30).getD 0))) rfl (fun hb => ?_) (fun hb => ?_)
    ·rw [if_pos hb] at hm
     clear hb
     cases hm
    rw [if_neg (by rw [hb]; decide)] at hm
    clear hb
    refine wK (wR ?_)
    refine lM (.map (some g_27)) ?_
    refine lM (.int .i64 x_30) ?_
    obtain ⟨es_36, hz_37, hm⟩ := bS hm
    have hz_37 : es_36 = mput seen_28 x_30 1 := (Option.some.inj hz_37).symm
    refine l_mapUpdate (k := x_30) (v := 1) KeyD.int h_29 Tryz.underlying183 Tryz.underlying3 rfl rfl rfl ?_
    intro w_32 hk_33 hs_34 h_35
    rw [← hz_37] at h_35
    clear hz_37
    clear h_29
    refine lN (wR ?_)
    refine lV (.int .i64 (IntKind.i64.wrap ((k_23 : Int) + 1))) (r_add (k_23 : Int) 1 rfl rfl) ?_
    refine lM (.int .i64 (IntKind.i64.wrap ((k_23 : Int) + 1))) ?_
    refine lN ?_
    replace h0 := h0.kp hk_33
    replace h_17 := h_17.kp hk_33
    replace hst := hst.kp hk_33 hs_34
    exact ⟨l_31.length, by simp, ⟨col_26, (k_23 + 1), g_27, es_36, l_31, rfl, hl2_L3, hm, hst, h0, h_17, h_35, (congrArg (Value.int .i64) (wrap_succ (Nat.lt_of_lt_of_le hlt_L3 h_17.1.1))), rfl, rfl, rfl, rfl, rfl, rfl, rfl⟩⟩
 | cons x_5 l_6 =>
  obtain ⟨hat, hl2_L1, hlt_L1⟩ := drop_get hl
  have hk : (k_1 : Int) < (p0_parents.length : Int) := by omega
  have hkb := decide_eq_true hk
  rw [m_dag_fits_L1.eq_2] at hm
  refine wS (wR ?_)
  refine lV (.bool (decide ((k_1 : Int) < (p0_parents.length : Int)))) (r_lss (k_1 : Int) (p0_parents.length : Int) rfl rfl) ?_
  refine lN (wS ?_)
  refine wcondT (congrArg Value.bool hkb) ?_
  refine wK (wS (wB (wS (wR ?_))))
  refine lV (sptr a0 (Int.toNat (k_1 : Int) * 1)) (r_idx Tryz.underlying25 Tryz.sizeOf33 rfl rfl (at?_some hat).1 (at?_some hat).2.1 (h0.addr hat)) ?_
  obtain ⟨_, hr_38, hA_39⟩ := h0.atN hat
  obtain ⟨⟨a_40, cap_41, rfl, h_42⟩, _⟩ := hr_38
  refine lV (.slice a_40 x_5.length cap_41) (r_ld Tryz.isAgg33 rfl hA_39.one) ?_
  refine lA (.slice a_40 x_5.length cap_41) ?_
  refine lN (wS (wR ?_))
  refine lM (.slice a_40 x_5.length cap_41) ?_
  refine lV (.int .i64 (x_5.length : Int)) (r_len Tryz.underlying33 rfl) ?_
  refine lM (.int .i64 0) ?_
  refine lN (wB ?_)
  refine wloop (fun n f w_45 => ∃ (col_46 : Col) (k_43 : Nat) (l_44 : List Int), n = l_44.length ∧ x_5.drop k_43 = l_44 ∧ m_dag_fits_L4 p0_parents (m_dag_fits_L1 p0_parents l_6) l_44  = some r ∧ St w0 (col0 col) col_46 w_45 ∧ Sl (Rep.slice (Rep.int .i64)) col_46 w_45 a0 cap0 p0_parents ∧ Sl (Rep.int .i64) col_46 w_45 a_40 cap_41 x_5 ∧ f 20 = (.int .i64 (k_43 : Int)) ∧ f 0 = (.slice a0 p0_parents.length cap0) ∧ f 12 = (.slice a0 p0_parents.length cap0) ∧ f 13 = (.int .i64 (p0_parents.length : Int)) ∧ f 14 = (.int .i64 (k_1 : Int)) ∧ f 18 = (.slice a_40 x_5.length cap_41) ∧ f 19 = (.int .i64 (x_5.length : Int)) ∧ f 1000000 = (enc [])) x_5.length ⟨col_4, 0, x_5, rfl, rfl, hm, hst, h0, h_42, rfl, rfl, rfl, rfl, rfl, rfl, rfl, rfl⟩ ?_
  clear hm; intro n f w_45 hI
  obtain ⟨col_46, k_43, l_44, hn, hl, hm, hst, h0, h_42, hs20, hs0, hs12, hs13, hs14, hs18, hs19, hs1000000⟩ := hI
  subst hn
  refine .lD 20 hs20 ?_
  refine .lD 0 hs0 ?_
  refine .lD 12 hs12 ?_
  refine .lD 13 hs13 ?_
  refine .lD 14 hs14 ?_
  refine .lD 18 hs18 ?_
  refine .lD 19 hs19 ?_
  refine .lD 1000000 hs1000000 ?_
  clear hs20 hs0 hs12 hs13 hs14 hs18 hs19 hs1000000
  cases l_44 with
  | nil =>
   have hk : ¬ ((k_43 : Int) < (x_5.length : Int)) := by have := List.drop_eq_nil_iff.1 hl; omega
   have hkb := decide_eq_false hk
   rw [m_dag_fits_L4.eq_1] at hm
   refine wS (wR ?_)
   refine lV (.bool (decide ((k_43 : Int) < (x_5.length : Int)))) (r_lss (k_43 : Int) (x_5.length : Int) rfl rfl) ?_
   refine lN (wS ?_)
   refine wcondF (congrArg Value.bool hkb) ?_
   refine wexit (inB_hit ?_)
   refine wR ?_
   refine lV (.int .i64 (IntKind.i64.wrap ((k_1 : Int) + 1))) (r_add (k_1 : Int) 1 rfl rfl) ?_
   refine lM (.int .i64 (IntKind.i64.wrap ((k_1 : Int) + 1))) ?_
   refine lN ?_
   exact ⟨l_6.length, by simp, ⟨col_46, (k_1 + 1), l_6, rfl, hl2_L1, hm, hst, h0, (congrArg (Value.int .i64) (wrap_succ (Nat.lt_of_lt_of_le hlt_L1 h0.1.1))), rfl, rfl, rfl, rfl⟩⟩
  | cons x_47 l_48 =>
   obtain ⟨hat, hl2_L4, hlt_L4⟩ := drop_get hl
   have hk : (k_43 : Int) < (x_5.length : Int) := by omega
   have hkb := decide_eq_true hk
   rw [m_dag_fits_L4.eq_2] at hm
   refine wS (wR ?_)
   refine lV (.bool (decide ((k_43 : Int) < (x_5.length : Int)))) (r_lss (k_43 : Int) (x_5.length : Int) rfl rfl) ?_
   refine lN (wS ?_)
   refine wcondT (congrArg Value.bool hkb) ?_
   refine wK (wS (wB (wS (wR ?_))))
   refine lV (sptr a_40 (Int.toNat (k_43 : Int) * 1)) (r_idx Tryz.underlying33 Tryz.sizeOf3 rfl rfl (at?_some hat).1 (at?_some hat).2.1 (h_42.addr hat)) ?_
   refine lV (.int .i64 x_47) (r_ld Tryz.isAgg3 rfl (h_42.atInt hat)) ?_
   refine lA (.int .i64 x_47) ?_
   refine lN (wS ?_)
   refine Wp.cut (fun f w_51 => ∃ (col_52 : Col) (v_53 : Bool), m_dag_fits_J1 (m_dag_fits_L4 p0_parents (m_dag_fits_L1 p0_parents l_6) l_48) v_53 = some r ∧ St w0 (col0 col) col_52 w_51 ∧ Sl (Rep.slice (Rep.int .i64)) col_52 w_51 a0 cap0 p0_parents ∧ Sl (Rep.int .i64) col_52 w_51 a_40 cap_41 x_5 ∧ f 0 = (.slice a0 p0_parents.length cap0) ∧ f 12 = (.slice a0 p0_parents.length cap0) ∧ f 13 = (.int .i64 (p0_parents.length : Int)) ∧ f 14 = (.int .i64 (k_1 : Int)) ∧ f 18 = (.slice a_40 x_5.length cap_41) ∧ f 19 = (.int .i64 (x_5.length : Int)) ∧ f 20 = (.int .i64 (k_43 : Int)) ∧ f 31 = (.bool v_53) ∧ f 1000000 = (enc [])) ?_ ?_
   ·intro f w_51 hJ
    obtain ⟨col_52, v_53, hm, hst, h0, h_42, hs0, hs12, hs13, hs14, hs18, hs19, hs20, hs31, hs1000000⟩ := hJ
    rw [m_dag_fits_J1.eq_1] at hm
    refine .lD 0 hs0 ?_
    refine .lD 12 hs12 ?_
    refine .lD 13 hs13 ?_
    refine .lD 14 hs14 ?_
    refine .lD 18 hs18 ?_
    refine .lD 19 hs19 ?_
    refine .lD 20 hs20 ?_
    refine .lD 31 hs31 ?_
    refine .lD 1000000 hs1000000 ?_
    clear hs0 hs12 hs13 hs14 hs18 hs19 hs20 hs31 hs1000000
    refine wcond (v_53) rfl (fun hb => ?_) (fun hb => ?_)
    ·rw [if_pos hb] at hm
     clear hb
     cases hm
    rw [if_neg (by rw [hb]; decide)] at hm
    clear hb
    refine wK (wR ?_)
    refine lV (.int .i64 (IntKind.i64.wrap ((k_43 : Int) + 1))) (r_add (k_43 : Int) 1 rfl rfl) ?_
    refine lM (.int .i64 (IntKind.i64.wrap ((k_43 : Int) + 1))) ?_
    refine lN ?_
    exact ⟨l_48.length, by simp, ⟨col_52, (k_43 + 1), l_48, rfl, hl2_L4, hm, hst, h0, h_42, (congrArg (Value.int .i64) (wrap_succ (Nat.lt_of_lt_of_le hlt_L4 h_42.1.1))), rfl, rfl, rfl, rfl, rfl, rfl, rfl⟩⟩
   refine wR ?_
   refine lM (.int .i64 x_47) ?_
   refine lV (.bool (decide (x_47 < 0))) (r_lss x_47 0 rfl rfl) ?_
   refine lM (.bool (decide (x_47 < 0))) ?_
   by_cases hg_54 : (decide (x_47 < 0)) = true
   ·rw [if_pos hg_54] at hm
    refine lp (b := decide (x_47 < 0)) 26 rfl rfl rfl rfl (by rw [hg_54]; rfl) ?_
    refine lp (b := decide (x_47 < 0)) 26 rfl rfl rfl rfl (by rw [hg_54]; rfl) ?_
    refine lp (b := decide (x_47 < 0)) 26 rfl rfl rfl rfl (by rw [hg_54]; rfl) ?_
    refine lp (b := decide (x_47 < 0)) 26 rfl rfl rfl rfl (by rw [hg_54]; rfl) ?_
    refine lV (.bool true) (r_pickT (congrArg Value.bool hg_54) rfl) ?_
    refine lN ?_
    exact ⟨col_46, true, hm, hst, h0, h_42, rfl, rfl, rfl, rfl, rfl, rfl, rfl, rfl, rfl⟩
   rw [if_neg hg_54] at hm
   replace hg_54 := Bool.eq_false_iff.2 hg_54
   refine lg (b := decide (x_47 < 0)) 26 rfl rfl rfl (by rw [hg_54]; rfl) ?_
   refine lM (.int .i64 x_47) ?_
   refine lg (b := decide (x_47 < 0)) 26 rfl rfl rfl (by rw [hg_54]; rfl) ?_
   refine lM (.slice a0 p0_parents.length cap0) ?_
   refine lg (b := decide (x_47 < 0)) 26 rfl rfl rfl (by rw [hg_54]; rfl) ?_
   refine lV (.int .i64 (p0_parents.length : Int)) (r_len Tryz.underlying25 rfl) ?_
   refine lg (b := decide (x_47 < 0)) 26 rfl rfl rfl (by rw [hg_54]; rfl) ?_
   refine lV (.bool (decide ((p0_parents.length : Int) ≤ x_47))) (r_geq x_47 (p0_parents.length : Int) rfl rfl) ?_
   refine lV (.bool (decide ((p0_parents.length : Int) ≤ x_47))) (r_pickF (congrArg Value.bool hg_54) rfl) ?_
   refine lN ?_
   exact ⟨col_46, (decide ((p0_parents.length : Int) ≤ x_47)), hm, hst, h0, h_42, rfl, rfl, rfl, rfl, rfl, rfl, rfl, rfl, rfl⟩
theorem el3_123 : ElemOk Tryz.prog 3 1 8 := ⟨Tryz.t3, _, rfl, rfl, rfl, rfl, rfl⟩
def m_dag_children_L2 (k_7 : Nat) (kk_L1 : (Nat → (List (List Int)) → Option (List (List Int)))) : List Int → (List (List Int)) → Option (List (List Int))
  | [], out_26 => kk_L1 (k_7 + 1) out_26
  | x_30 :: l_31, out_26 => (at? out_26 x_30).bind fun e_32 => chk ((e_32.length + [(k_7 : Int)].length) * 8 ≤ 140737488355328 ∧ e_32.length + [(k_7 : Int)].length ≤ maxLen) ((m_dag_children_L2 k_7 kk_L1 l_31) (out_26.set (Int.toNat x_30) (e_32 ++ [(k_7 : Int)])))
termination_by structural x => x
def m_dag_children_L1  : List (List Int) → Nat → (List (List Int)) → Option (List (List Int))
  | [], k_7, out_11 => some out_11
  | x_15 :: l_16, k_7, out_11 => m_dag_children_L2 k_7 (m_dag_children_L1 l_16) x_15 out_11
termination_by structural x => x
def m_dag_children (p0_parents : (List (List Int))) : Option (List (List Int)) :=
  chk (p0_parents.length * 24 ≤ 281474976710656 ∧ p0_parents.length ≤ maxLen) (m_dag_children_L1 p0_parents 0 (List.replicate p0_parents.length (([] : List Int) : (List Int))))
theorem c_dag_children (c1 : Nat) (col : Col) (w0 : World) (a0 : Option Addr) (cap0 : Nat) (p0_parents : (List (List Int))) (h0 : Sl (Rep.slice (Rep.int .i64)) col w0 a0 cap0 p0_parents) (r : (List (List Int))) (hm : m_dag_children p0_parents = some r) :
    Calls Tryz.prog 123 #[(.slice a0 p0_parents.length cap0)] w0 (fun e w' => ∃ (col' : Col) (ra1 : Option Addr) (rc2 : Nat), e = .returned ((.slice ra1 r.length rc2)) ∧ Grow col w0 col' w' ∧ Own (Rep.row 3 (Rep.int .i64)) 33 c1 col' w' ra1 rc2 r) := by
 refine calls_of1 2 (m := 37) (args := [(.slice a0 p0_parents.length cap0)]) Tryz.func123 rfl rfl rfl rfl rfl ?_
 rw [m_dag_children.eq_1] at hm
 have hst := St.start col w0
 refine wS (wR ?_)
 refine lA (.slice none (([] : List (List Int)).length) 0) ?_
 refine lN (wS (wR ?_))
 refine lM (.slice a0 p0_parents.length cap0) ?_
 refine lV (.int .i64 (p0_parents.length : Int)) (r_len Tryz.underlying25 rfl) ?_
 obtain ⟨hb_1, hm⟩ := cS hm
 refine l_make (col := (col0 col)) (w := w0) (r := (Rep.row 3 (Rep.int .i64))) (n := p0_parents.length) (x0 := ([] : List Int)) 1 rfl Tryz.underlying25 Tryz.t33 rfl rfl rfl rfl rfl rfl rfl hb_1.1 hb_1.2 rd_nilrow ?_
 intro a_2 w_3 col_4 hg_5 h_6
 refine lA (.slice a_2 ((List.replicate p0_parents.length (([] : List Int) : (List Int))).length) p0_parents.length) ?_
 refine lN (wS (wS (wR ?_)))
 refine lM (.slice a0 p0_parents.length cap0) ?_
 refine lV (.int .i64 (p0_parents.length : Int)) (r_len Tryz.underlying25 rfl) ?_
 refine lM (.int .i64 0) ?_
 refine lN (wB ?_)
 replace h0 := (h0.keep (Stay.start col w0)).gr hg_5
 replace hst := hst.grow hg_5
 refine wloop (fun n f w_9 => ∃ (col_10 : Col) (k_7 : Nat) (a_12 : Option Addr) (cap_13 : Nat) (out_11 : List (List Int)) (l_8 : List (List Int)), n = l_8.length ∧ p0_parents.drop k_7 = l_8 ∧ m_dag_children_L1 l_8 k_7 out_11 = some r ∧ St w0 (col0 col) col_10 w_9 ∧ Sl (Rep.slice (Rep.int .i64)) col_10 w_9 a0 cap0 p0_parents ∧ Own (Rep.row 3 (Rep.int .i64)) 33 1 col_10 w_9 a_12 cap_13 out_11 ∧ f 13 = (.int .i64 (k_7 : Int)) ∧ f 11 = (.slice a0 p0_parents.length cap0) ∧ f 12 = (.int .i64 (p0_parents.length : Int)) ∧ f 3 = (.slice a_12 out_11.length cap_13) ∧ f 1000000 = (enc [])) p0_parents.length ⟨col_4, 0, a_2, p0_parents.length, (List.replicate p0_parents.length (([] : List Int) : (List Int))), p0_parents, rfl, rfl, hm, hst, h0, h_6, rfl, rfl, rfl, rfl, rfl⟩ ?_
 clear hm; intro n f w_9 hI
 obtain ⟨col_10, k_7, a_12, cap_13, out_11, l_8, hn, hl, hm, hst, h0, h_14, hs13, hs11, hs12, hs3, hs1000000⟩ := hI
 subst hn
 refine .lD 13 hs13 ?_
 refine .lD 11 hs11 ?_
 refine .lD 12 hs12 ?_
 refine .lD 3 hs3 ?_
 refine .lD 1000000 hs1000000 ?_
 clear hs13 hs11 hs12 hs3 hs1000000
 cases l_8 with
 | nil =>
  have hk : ¬ ((k_7 : Int) < (p0_parents.length : Int)) := by have := List.drop_eq_nil_iff.1 hl; omega
  have hkb := decide_eq_false hk
  rw [m_dag_children_L1.eq_1] at hm
  refine wS (wR ?_)
  refine lV (.bool (decide ((k_7 : Int) < (p0_parents.length : Int)))) (r_lss (k_7 : Int) (p0_parents.length : Int) rfl rfl) ?_
  refine lN (wS ?_)
  refine wcondF (congrArg Value.bool hkb) ?_
  refine wexit (inB_hit ?_)
  refine wS (wR ?_)
  refine lM (.slice a_12 out_11.length cap_13) ?_
  refine lA (.slice a_12 out_11.length cap_13) ?_
  refine lN ?_
  refine wret ?_
  cases hm
  exact ⟨rfl, colF w0.heap.size col col_10 (fun n => bif Nat.beq n 1 then c1 else 0), a_12, cap_13, rfl, hst.fin (fun n => bif Nat.beq n 1 then c1 else 0), hst.finOwn (g := (fun n => bif Nat.beq n 1 then c1 else 0)) rfl h_14 (by decide) (by decide) rfl⟩
 | cons x_15 l_16 =>
  obtain ⟨hat, hl2_L1, hlt_L1⟩ := drop_get hl
  have hk : (k_7 : Int) < (p0_parents.length : Int) := by omega
  have hkb := decide_eq_true hk
  rw [m_dag_children_L1.eq_2] at hm
  refine wS (wR ?_)
  refine lV (.bool (decide ((k_7 : Int) < (p0_parents.length : Int)))) (r_lss (k_7 : Int) (p0_parents.length : Int) rfl rfl) ?_
  refine lN (wS ?_)
  refine wcondT (congrArg Value.bool hkb) ?_
  refine wK (wS (wB (wS (wR ?_))))
  refine lM (.int .i64 (k_7 : Int)) ?_
  refine lV (sptr a0 (Int.toNat (k_7 : Int) * 1)) (r_idx Tryz.underlying25 Tryz.sizeOf33 rfl rfl (at?_some hat).1 (at?_some hat).2.1 (h0.addr hat)) ?_
  obtain ⟨_, hr_17, hA_18⟩ := h0.atN hat
  obtain ⟨⟨a_19, cap_20, rfl, h_21⟩, _⟩ := hr_17
  refine lV (.slice a_19 x_15.length cap_20) (r_ld Tryz.isAgg33 rfl hA_18.one) ?_
  refine lA (.int .i64 (k_7 : Int)) ?_
  refine lA (.slice a_19 x_15.length cap_20) ?_
  refine lN (wS (wR ?_))
  refine lM (.slice a_19 x_15.length cap_20) ?_
  refine lV (.int .i64 (x_15.length : Int)) (r_len Tryz.underlying33 rfl) ?_
  refine lM (.int .i64 0) ?_
  refine lN (wB ?_)
  refine wloop (fun n f w_24 => ∃ (col_25 : Col) (k_22 : Nat) (a_27 : Option Addr) (cap_28 : Nat) (out_26 : List (List Int)) (l_23 : List Int), n = l_23.length ∧ x_15.drop k_22 = l_23 ∧ m_dag_children_L2 k_7 (m_dag_children_L1 l_16) l_23 out_26 = some r ∧ St w0 (col0 col) col_25 w_24 ∧ Sl (Rep.slice (Rep.int .i64)) col_25 w_24 a0 cap0 p0_parents ∧ Sl (Rep.int .i64) col_25 w_24 a_19 cap_20 x_15 ∧ Own (Rep.row 3 (Rep.int .i64)) 33 1 col_25 w_24 a_27 cap_28 out_26 ∧ f 20 = (.int .i64 (k_22 : Int)) ∧ f 11 = (.slice a0 p0_parents.length cap0) ∧ f 12 = (.int .i64 (p0_parents.length : Int)) ∧ f 13 = (.int .i64 (k_7 : Int)) ∧ f 18 = (.slice a_19 x_15.length cap_20) ∧ f 19 = (.int .i64 (x_15.length : Int)) ∧ f 3 = (.slice a_27 out_26.length cap_28) ∧ f 4 = (.int .i64 (k_7 : Int)) ∧ f 1000000 = (enc [])) x_15.length ⟨col_10, 0, a_12, cap_13, out_11, x_15, rfl, rfl, hm, hst, h0, h_21, h_14, rfl, rfl, rfl, rfl, rfl, rfl, rfl, rfl, rfl⟩ ?_
  clear hm; intro n f w_24 hI
  obtain ⟨col_25, k_22, a_27, cap_28, out_26, l_23, hn, hl, hm, hst, h0, h_21, h_29, hs20, hs11, hs12, hs13, hs18, hs19, hs3, hs4, hs1000000⟩ := hI
  subst hn
  refine .lD 20 hs20 ?_
  refine .lD 11 hs11 ?_
  refine .lD 12 hs12 ?_
  refine .lD 13 hs13 ?_
  refine .lD 18 hs18 ?_
  refine .lD 19 hs19 ?_
  refine .lD 3 hs3 ?_
  refine .lD 4 hs4 ?_
  refine .lD 1000000 hs1000000 ?_
  clear hs20 hs11 hs12 hs13 hs18 hs19 hs3 hs4 hs1000000
  cases l_23 with
  | nil =>
   have hk : ¬ ((k_22 : Int) < (x_15.length : Int)) := by have := List.drop_eq_nil_iff.1 hl; omega
   have hkb := decide_eq_false hk
   rw [m_dag_children_L2.eq_1] at hm
   refine wS (wR ?_)
   refine lV (.bool (decide ((k_22 : Int) < (x_15.length : Int)))) (r_lss (k_22 : Int) (x_15.length : Int) rfl rfl) ?_
   refine lN (wS ?_)
   refine wcondF (congrArg Value.bool hkb) ?_
   refine wexit (inB_hit ?_)
   refine wR ?_
   refine lV (.int .i64 (IntKind.i64.wrap ((k_7 : Int) + 1))) (r_add (k_7 : Int) 1 rfl rfl) ?_
   refine lM (.int .i64 (IntKind.i64.wrap ((k_7 : Int) + 1))) ?_
   refine lN ?_
   exact ⟨l_16.length, by simp, ⟨col_25, (k_7 + 1), a_27, cap_28, out_26, l_16, rfl, hl2_L1, hm, hst, h0, h_29, (congrArg (Value.int .i64) (wrap_succ (Nat.lt_of_lt_of_le hlt_L1 h0.1.1))), rfl, rfl, rfl, rfl⟩⟩
  | cons x_30 l_31 =>
   obtain ⟨hat, hl2_L2, hlt_L2⟩ := drop_get hl
   have hk : (k_22 : Int) < (x_15.length : Int) := by omega
   have hkb := decide_eq_true hk
   rw [m_dag_children_L2.eq_2] at hm
   refine wS (wR ?_)
   refine lV (.bool (decide ((k_22 : Int) < (x_15.length : Int)))) (r_lss (k_22 : Int) (x_15.length : Int) rfl rfl) ?_
   refine lN (wS ?_)
   refine wcondT (congrArg Value.bool hkb) ?_
   refine wK (wS (wB (wS (wR ?_))))
   refine lV (sptr a_19 (Int.toNat (k_22 : Int) * 1)) (r_idx Tryz.underlying33 Tryz.sizeOf3 rfl rfl (at?_some hat).1 (at?_some hat).2.1 (h_21.addr hat)) ?_
   refine lV (.int .i64 x_30) (r_ld Tryz.isAgg3 rfl (h_21.atInt hat)) ?_
   refine lA (.int .i64 x_30) ?_
   refine lN (wR ?_)
   refine lM (.slice a_27 out_26.length cap_28) ?_
   refine lM (.int .i64 x_30) ?_
   refine lM (.slice a_27 out_26.length cap_28) ?_
   refine lM (.int .i64 x_30) ?_
   obtain ⟨e_32, hj_33, hm⟩ := bS hm
   refine lV (sptr a_27 (Int.toNat x_30 * 1)) (r_idx Tryz.underlying25 Tryz.sizeOf33 rfl rfl (at?_some hj_33).1 (at?_some hj_33).2.1 (h_29.addr hj_33)) ?_
   obtain ⟨_, col_37, hk_35, hH_36, hs_34⟩ := h_29.open_ 2 (by decide) hj_33
   obtain ⟨a_38, cap_39, rfl, h_40⟩ := hs_34.row
   clear h_29
   replace hH_36 : Hole (Rep.row 3 (Rep.int .i64)) 33 1 col_37 w_24 a_27 cap_28 out_26 (Int.toNat x_30) [(.slice a_38 e_32.length cap_39)] := hH_36
   refine lV (.slice a_38 e_32.length cap_39) (r_ld Tryz.isAgg33 rfl hH_36.atN.one) ?_
   refine lM (.int .i64 (k_7 : Int)) ?_
   refine l_lit (col := col_37) (r := (Rep.int .i64)) (xs := [(k_7 : Int)]) [(.int .i64 (k_7 : Int))] 3 rfl Tryz.underlying33 el3_123 rfl rfl rfl rfl rfl rfl (by intro v hv; simp only [List.mem_cons, List.not_mem_nil, or_false] at hv; subst hv; rfl) (RowsH.ofF (Rows.consF (r := (Rep.int .i64)) (x := (k_7 : Int)) (cs := [(.int .i64 (k_7 : Int))]) (rd_int .i64 (k_7 : Int)) Rows.nil0)) ?_
   intro a_41 w_42 col_43 hg_44 h_45
   obtain ⟨hb_46, hm⟩ := cS hm
   replace h_40 := h_40.gr hg_44
   refine l_ext (col := col_43) (w := w_42) (r := (Rep.int .i64)) (c := 2) (c2 := 2) (h_40.ex) (h_45.srcN (NB.int (k := .i64))) rfl Tryz.underlying33 el3_123 rfl rfl rfl hb_46.1 hb_46.2 (by decide) ?_
   intro a_47 cap_48 w_49 col_50 hk_51 h_52
   clear h_40
   replace hH_36 := (hH_36.gr hg_44).kpp hk_51
   refine lV (sptr a_27 (Int.toNat x_30 * 1)) (r_idx Tryz.underlying25 Tryz.sizeOf33 rfl rfl (at?_some hj_33).1 (at?_some hj_33).2.1 (hH_36.addr)) ?_
   refine l_storeH (v := (.slice a_47 ((e_32 ++ [(k_7 : Int)]).length) cap_48)) hH_36 rfl Tryz.sizeOf33 rfl (by intro u hu; simp only [Value.cells, List.mem_cons, List.not_mem_nil, or_false] at hu; subst hu; rfl) rfl rfl (by decide) ?_
   intro w_53 hk_54 hs_55 hH_56
   replace hH_56 : Hole (Rep.row 3 (Rep.int .i64)) 33 1 col_50 w_53 a_27 cap_28 out_26 (Int.toNat x_30) [(.slice a_47 ((e_32 ++ [(k_7 : Int)]).length) cap_48)] := hH_56
   clear hH_36
   replace h_52 := h_52.kp hk_54
   have h_57 := h_52.new
   clear h_52
   have h_58 := hH_56.close h_57.has (by decide) (by decide)
   replace h0 := (((h0.kpp hk_35).gr hg_44).kpp hk_51).kp hk_54
   replace h0 := h0.recol 2 1 (by decide)
   replace h_21 := (((h_21.kpp hk_35).gr hg_44).kpp hk_51).kp hk_54
   replace h_21 := h_21.recol 2 1 (by decide)
   replace hst := (((hst.kpp hk_35).grow hg_44).kpp hk_51).kp hk_54 hs_55
   replace hst := hst.recol 2 1 (by decide) (by decide)
   clear hH_56
   refine .ld (d := 3) (v := (.slice a_27 ((out_26.set (Int.toNat x_30) (e_32 ++ [(k_7 : Int)])).length) cap_28)) (congrArg (fun n => Value.slice a_27 n cap_28) (show out_26.length = (out_26.set (Int.toNat x_30) (e_32 ++ [(k_7 : Int)])).length by simp only [List.length_set])) ?_
   refine lN (wR ?_)
   refine lV (.int .i64 (IntKind.i64.wrap ((k_22 : Int) + 1))) (r_add (k_22 : Int) 1 rfl rfl) ?_
   refine lM (.int .i64 (IntKind.i64.wrap ((k_22 : Int) + 1))) ?_
   refine lN ?_
   exact ⟨l_31.length, by simp, ⟨(rcC 2 1 col_50), (k_22 + 1), a_27, cap_28, (out_26.set (Int.toNat x_30) (e_32 ++ [(k_7 : Int)])), l_31, rfl, hl2_L2, hm, hst, h0, h_21, h_58, (congrArg (Value.int .i64) (wrap_succ (Nat.lt_of_lt_of_le hlt_L2 h_21.1.1))), rfl, rfl, rfl, rfl, rfl, rfl, rfl, rfl⟩⟩
def m_dag_heap_pop_J1 (v_27 : Int) (kk_L2 : (Int → Int → Option (Int × (List Int)))) (least_31 : Int) : Option (Int × (List Int)) :=
  kk_L2 (IntKind.i64.wrap (v_27 + 1)) least_31
def m_dag_heap_pop_J2 (v_27 : Int) (least_28 : Int) (kk_L2 : (Int → Int → Option (Int × (List Int)))) (v_43 : Bool) : Option (Int × (List Int)) :=
  if v_43 = true then none else (m_dag_heap_pop_J1 v_27 kk_L2 least_28)
def m_dag_heap_pop_L2 (N : Nat) (p0_h : (List Int)) (e_1 : Int) (l_19 : List Int) (i_23 : Int) : Nat → Int → Int → Option (Int × (List Int))
  | 0, _, _ => none
  | n_24 + 1, v_27, least_28 => if (decide (v_27 < 2)) = true then ((at? [IntKind.i64.wrap ((IntKind.i64.wrap (2 * i_23)) + 1), IntKind.i64.wrap ((IntKind.i64.wrap (2 * i_23)) + 2)] v_27).bind fun e_32 => if (decide (e_32 < (IntKind.i64.wrap ((p0_h.length : Int) - 1)))) = true then ((at? l_19 e_32).bind fun e_45 => (at? l_19 least_28).bind fun e_47 => m_dag_heap_pop_J2 v_27 least_28 (m_dag_heap_pop_L2 N p0_h e_1 l_19 i_23 n_24) (decide (e_45 < e_47))) else (m_dag_heap_pop_J2 v_27 least_28 (m_dag_heap_pop_L2 N p0_h e_1 l_19 i_23 n_24) false)) else (if (decide (least_28 = i_23)) = true then (some (e_1, l_19.take (Int.toNat (IntKind.i64.wrap ((p0_h.length : Int) - 1))))) else none)
termination_by structural x => x
def m_dag_heap_pop_L1 (N : Nat) (p0_h : (List Int)) (e_1 : Int) : Nat → (List Int) → Int → Option (Int × (List Int))
  | 0, _, _ => none
  | n_16 + 1, l_19, i_23 => m_dag_heap_pop_L2 N p0_h e_1 l_19 i_23 N 0 i_23
def m_dag_heap_pop (N : Nat) (p0_h : (List Int)) : Option (Int × (List Int)) :=
  (at? p0_h 0).bind fun e_1 => (at? p0_h (IntKind.i64.wrap ((p0_h.length : Int) - 1))).bind fun e_3 => (some (p0_h.set (Int.toNat 0) e_3)).bind fun xs_10 => chk ((0 : Int) ≤ (IntKind.i64.wrap ((p0_h.length : Int) - 1)) ∧ (IntKind.i64.wrap ((p0_h.length : Int) - 1)) ≤ (xs_10.length : Int)) (m_dag_heap_pop_L1 N p0_h e_1 N xs_10 0)
theorem c_dag_heap_pop (N : Nat) (col : Col) (w0 : World) (qc0 : Nat) (qc0_1 : Nat) (hd : dstB [qc0, qc0_1] = true) (g0 : Nat) (p0_h : (List Int)) (a0_2 : Option Addr) (cap0_2 : Nat) (h0_2 : Own (Rep.int .i64) 3 qc0_1 col w0 a0_2 cap0_2 p0_h) (hb0 : Box 184 qc0 col w0 g0 #[(.slice a0_2 p0_h.length cap0_2)]) (r : (Int × (List Int))) (hm : m_dag_heap_pop N p0_h = some r) :
    Calls Tryz.prog 152 #[(.pointer (some ⟨g0, 0, none⟩))] w0 (fun e w' => ∃ (col' : Col) (oa1 : Option Addr) (oc2 : Nat), e = .returned ((.int .i64 r.1)) ∧ KeepP (pS [qc0, qc0_1]) col w0 col' w' ∧ Own (Rep.int .i64) 3 qc0_1 col' w' oa1 oc2 r.2 ∧ Box 184 qc0 col' w' g0 #[(.slice oa1 r.2.length oc2)]) := by
 refine calls_of1 2 (m := 76) (args := [(.pointer (some ⟨g0, 0, none⟩))]) Tryz.func152 rfl rfl rfl rfl rfl ?_
 rw [m_dag_heap_pop.eq_1] at hm
 have hst := St.startL (l := [qc0, qc0_1]) rfl col w0
 replace hb0 := hb0.startL (dst_nz hd 0 rfl) (dst_ix hd 0 rfl)
 replace h0_2 := h0_2.startL (dst_nz hd 1 rfl) (dst_ix hd 1 rfl)
 refine wS (wR ?_)
 refine lA (.int .i64 0) ?_
 refine lN (wS (wR ?_))
 refine lM (.pointer (some ⟨g0, 0, none⟩)) ?_
 refine lV (.pointer (some ⟨g0, 0, none⟩)) (r_nilCheck rfl) ?_
 refine lV (.slice a0_2 p0_h.length cap0_2) (r_ld Tryz.isAgg184 rfl hb0.at1) ?_
 refine lA (.slice a0_2 p0_h.length cap0_2) ?_
 refine lN (wS (wR ?_))
 refine lM (.slice a0_2 p0_h.length cap0_2) ?_
 obtain ⟨e_1, hj_2, hm⟩ := bS hm
 refine lV (sptr a0_2 (Int.toNat 0 * 1)) (r_idx Tryz.underlying184 Tryz.sizeOf3 rfl rfl (at?_some hj_2).1 (at?_some hj_2).2.1 (h0_2.addr hj_2)) ?_
 refine lV (.int .i64 e_1) (r_ld Tryz.isAgg3 rfl (h0_2.atInt hj_2)) ?_
 refine lM (.slice a0_2 p0_h.length cap0_2) ?_
 refine lV (.int .i64 (p0_h.length : Int)) (r_len Tryz.underlying184 rfl) ?_
 refine lV (.int .i64 (IntKind.i64.wrap ((p0_h.length : Int) - 1))) (r_sub (p0_h.length : Int) 1 rfl rfl) ?_
 refine lA (.int .i64 e_1) ?_
 refine lA (.int .i64 (IntKind.i64.wrap ((p0_h.length : Int) - 1))) ?_
 refine lN (wS (wR ?_))
 refine lM (.slice a0_2 p0_h.length cap0_2) ?_
 refine lM (.slice a0_2 p0_h.length cap0_2) ?_
 refine lM (.int .i64 (IntKind.i64.wrap ((p0_h.length : Int) - 1))) ?_
 obtain ⟨e_3, hj_4, hm⟩ := bS hm
 refine lV (sptr a0_2 (Int.toNat (IntKind.i64.wrap ((p0_h.length : Int) - 1)) * 1)) (r_idx Tryz.underlying184 Tryz.sizeOf3 rfl rfl (at?_some hj_4).1 (at?_some hj_4).2.1 (h0_2.addr hj_4)) ?_
 refine lV (.int .i64 e_3) (r_ld Tryz.isAgg3 rfl (h0_2.atInt hj_4)) ?_
 refine lV (sptr a0_2 (Int.toNat 0 * 1)) (r_idx Tryz.underlying184 Tryz.sizeOf3 rfl rfl (at?_some hj_2).1 (at?_some hj_2).2.1 (h0_2.addr hj_2)) ?_
 obtain ⟨xs_10, hz_9, hm⟩ := bS hm
 have hz_9 : xs_10 = p0_h.set (Int.toNat 0) e_3 := (Option.some.inj hz_9).symm
 refine l_store (x1 := e_3) (v := (.int .i64 e_3)) h0_2 hj_2 rfl Tryz.sizeOf3 (rd_int .i64 e_3) rfl rfl (by decide) ?_
 intro w_5 hk_6 hs_7 h_8
 rw [← hz_9] at h_8
 refine .ld (d := 3) (v := (.slice a0_2 xs_10.length cap0_2)) (congrArg (fun n => Value.slice a0_2 n cap0_2) (show p0_h.length = xs_10.length by rw [hz_9, List.length_set])) ?_
 replace hb0 := hb0.kp hk_6
 replace hb0 : Box 184 440 (colL [qc0, qc0_1] col) w_5 g0 #[(.slice a0_2 xs_10.length cap0_2)] := by rw [← (show p0_h.length = xs_10.length by rw [hz_9, List.length_set])]; exact hb0
 clear h0_2
 refine lN (wS (wR ?_))
 refine lM (.pointer (some ⟨g0, 0, none⟩)) ?_
 refine lM (.slice a0_2 xs_10.length cap0_2) ?_
 refine lM (.int .i64 (IntKind.i64.wrap ((p0_h.length : Int) - 1))) ?_
 obtain ⟨hb_11, hm⟩ := cS hm
 refine lv (v := .slice a0_2 (Int.toNat (IntKind.i64.wrap ((p0_h.length : Int) - 1))) cap0_2) rfl rfl (r_sliceH Tryz.underlying184 Tryz.sizeOf3 rfl rfl hb_11.1 (by have := h_8.lecap; have := hb_11.2; omega)) ?_
 refine .ld (d := 28) (v := (.slice a0_2 ((xs_10.take (Int.toNat (IntKind.i64.wrap ((p0_h.length : Int) - 1)))).length) cap0_2)) (congrArg (fun n => Value.slice a0_2 n cap0_2) (List.length_take_of_le (show (Int.toNat (IntKind.i64.wrap ((p0_h.length : Int) - 1))) ≤ xs_10.length by have := hb_11.2; omega)).symm) ?_
 refine lV (.pointer (some ⟨g0, 0, none⟩)) (r_nilCheck rfl) ?_
 refine l_bstore (v := (.slice a0_2 ((xs_10.take (Int.toNat (IntKind.i64.wrap ((p0_h.length : Int) - 1)))).length) cap0_2)) hb0 Tryz.sizeOf184 rfl rfl (by intro u hu; simp only [Value.cells, List.mem_cons, List.not_mem_nil, or_false] at hu; subst hu; rfl) rfl rfl ?_
 intro w_12 hk_13 hs_14 hb_15
 clear hb0
 replace hb_15 : Box 184 440 (colL [qc0, qc0_1] col) w_12 g0 #[(.slice a0_2 ((xs_10.take (Int.toNat (IntKind.i64.wrap ((p0_h.length : Int) - 1)))).length) cap0_2)] := hb_15
 refine lN (wS (wR ?_))
 refine lA (.int .i64 0) ?_
 refine lN (wB ?_)
 replace hst := (hst.kp hk_6 hs_7).kp hk_13 hs_14
 replace h_8 := h_8.kp hk_13
 refine wloop (fun n f w_17 => ∃ (col_18 : Col) (a_20 : Option Addr) (cap_21 : Nat) (l_19 : List Int) (i_23 : Int) (n_16 : Nat), n_16 = n ∧ m_dag_heap_pop_L1 N p0_h e_1 n_16 l_19 i_23 = some r ∧ St w0 (colL [qc0, qc0_1] col) col_18 w_17 ∧ Own (Rep.int .i64) 3 441 col_18 w_17 a_20 cap_21 l_19 ∧ Box 184 440 col_18 w_17 g0 #[(.slice a_20 ((l_19.take (Int.toNat (IntKind.i64.wrap ((p0_h.length : Int) - 1)))).length) cap_21)] ∧ f 3 = (.slice a_20 l_19.length cap_21) ∧ f 4 = (.int .i64 e_1) ∧ f 5 = (.int .i64 (IntKind.i64.wrap ((p0_h.length : Int) - 1))) ∧ f 6 = (.int .i64 i_23) ∧ f 1000000 = (enc [])) N ⟨(colL [qc0, qc0_1] col), a0_2, cap0_2, xs_10, 0, N, rfl, hm, hst, h_8, hb_15, rfl, rfl, rfl, rfl, rfl⟩ ?_
 clear hm; intro n f w_17 hI
 obtain ⟨col_18, a_20, cap_21, l_19, i_23, n_16, hn, hm, hst, h_22, hb_15, hs3, hs4, hs5, hs6, hs1000000⟩ := hI
 subst hn
 refine .lD 3 hs3 ?_
 refine .lD 4 hs4 ?_
 refine .lD 5 hs5 ?_
 refine .lD 6 hs6 ?_
 refine .lD 1000000 hs1000000 ?_
 clear hs3 hs4 hs5 hs6 hs1000000
 cases n_16 with
 | zero => rw [m_dag_heap_pop_L1.eq_1] at hm; cases hm
 | succ n_16 =>
  rw [m_dag_heap_pop_L1.eq_2] at hm
  refine wB (wS (wR ?_))
  refine lM (.int .i64 i_23) ?_
  refine lA (.int .i64 i_23) ?_
  refine lN (wS (wS (wR ?_)))
  refine lM (.int .i64 i_23) ?_
  refine lV (.int .i64 (IntKind.i64.wrap (2 * i_23))) (r_mul 2 i_23 rfl rfl) ?_
  refine lV (.int .i64 (IntKind.i64.wrap ((IntKind.i64.wrap (2 * i_23)) + 1))) (r_add (IntKind.i64.wrap (2 * i_23)) 1 rfl rfl) ?_
  refine lM (.int .i64 i_23) ?_
  refine lV (.int .i64 (IntKind.i64.wrap (2 * i_23))) (r_mul 2 i_23 rfl rfl) ?_
  refine lV (.int .i64 (IntKind.i64.wrap ((IntKind.i64.wrap (2 * i_23)) + 2))) (r_add (IntKind.i64.wrap (2 * i_23)) 2 rfl rfl) ?_
  refine lV (.agg #[(.int .i64 (IntKind.i64.wrap ((IntKind.i64.wrap (2 * i_23)) + 1))), (.int .i64 (IntKind.i64.wrap ((IntKind.i64.wrap (2 * i_23)) + 2)))]) (r_buildA Tryz.underlying207 Tryz.sizeOf3 Tryz.zeroValue207 rfl) ?_
  refine lM (.int .i64 0) ?_
  refine lN (wB ?_)
  refine wloop (fun n f w_25 => ∃ (col_26 : Col) (v_27 : Int) (least_28 : Int) (n_24 : Nat), n_24 = n ∧ m_dag_heap_pop_L2 N p0_h e_1 l_19 i_23 n_24 v_27 least_28 = some r ∧ St w0 (colL [qc0, qc0_1] col) col_26 w_25 ∧ Own (Rep.int .i64) 3 441 col_26 w_25 a_20 cap_21 l_19 ∧ Box 184 440 col_26 w_25 g0 #[(.slice a_20 ((l_19.take (Int.toNat (IntKind.i64.wrap ((p0_h.length : Int) - 1)))).length) cap_21)] ∧ f 3 = (.slice a_20 l_19.length cap_21) ∧ f 37 = (.agg #[(.int .i64 (IntKind.i64.wrap ((IntKind.i64.wrap (2 * i_23)) + 1))), (.int .i64 (IntKind.i64.wrap ((IntKind.i64.wrap (2 * i_23)) + 2)))]) ∧ f 38 = (.int .i64 v_27) ∧ f 4 = (.int .i64 e_1) ∧ f 5 = (.int .i64 (IntKind.i64.wrap ((p0_h.length : Int) - 1))) ∧ f 6 = (.int .i64 i_23) ∧ f 7 = (.int .i64 least_28) ∧ f 1000000 = (enc [])) N ⟨col_18, 0, i_23, N, rfl, hm, hst, h_22, hb_15, rfl, rfl, rfl, rfl, rfl, rfl, rfl, rfl⟩ ?_
  clear hm; intro n f w_25 hI
  obtain ⟨col_26, v_27, least_28, n_24, hn, hm, hst, h_22, hb_15, hs3, hs37, hs38, hs4, hs5, hs6, hs7, hs1000000⟩ := hI
  subst hn
  refine .lD 3 hs3 ?_
  refine .lD 37 hs37 ?_
  refine .lD 38 hs38 ?_
  refine .lD 4 hs4 ?_
  refine .lD 5 hs5 ?_
  refine .lD 6 hs6 ?_
  refine .lD 7 hs7 ?_
  refine .lD 1000000 hs1000000 ?_
  clear hs3 hs37 hs38 hs4 hs5 hs6 hs7 hs1000000
  cases n_24 with
  | zero => rw [m_dag_heap_pop_L2.eq_1] at hm; cases hm
  | succ n_24 =>
   rw [m_dag_heap_pop_L2.eq_2] at hm
   refine wS (wR ?_)
   refine lV (.bool (decide (v_27 < 2))) (r_lss v_27 2 rfl rfl) ?_
   refine lN (wS ?_)
   refine wcond (decide (v_27 < 2)) rfl (fun hb => ?_) (fun hb => ?_)
   ·rw [if_pos hb] at hm
    clear hb
    refine wK (wS ?_)
    refine Wp.cut (fun f w_29 => ∃ (col_30 : Col) (least_31 : Int), m_dag_heap_pop_J1 v_27 (m_dag_heap_pop_L2 N p0_h e_1 l_19 i_23 n_24) least_31 = some r ∧ St w0 (colL [qc0, qc0_1] col) col_30 w_29 ∧ Own (Rep.int .i64) 3 441 col_30 w_29 a_20 cap_21 l_19 ∧ Box 184 440 col_30 w_29 g0 #[(.slice a_20 ((l_19.take (Int.toNat (IntKind.i64.wrap ((p0_h.length : Int) - 1)))).length) cap_21)] ∧ f 3 = (.slice a_20 l_19.length cap_21) ∧ f 37 = (.agg #[(.int .i64 (IntKind.i64.wrap ((IntKind.i64.wrap (2 * i_23)) + 1))), (.int .i64 (IntKind.i64.wrap ((IntKind.i64.wrap (2 * i_23)) + 2)))]) ∧ f 38 = (.int .i64 v_27) ∧ f 4 = (.int .i64 e_1) ∧ f 5 = (.int .i64 (IntKind.i64.wrap ((p0_h.length : Int) - 1))) ∧ f 6 = (.int .i64 i_23) ∧ f 7 = (.int .i64 least_31) ∧ f 1000000 = (enc [])) ?_ ?_
    ·intro f w_29 hJ
     obtain ⟨col_30, least_31, hm, hst, h_22, hb_15, hs3, hs37, hs38, hs4, hs5, hs6, hs7, hs1000000⟩ := hJ
     rw [m_dag_heap_pop_J1.eq_1] at hm
     refine .lD 3 hs3 ?_
     refine .lD 37 hs37 ?_
     refine .lD 38 hs38 ?_
     refine .lD 4 hs4 ?_
     refine .lD 5 hs5 ?_
     refine .lD 6 hs6 ?_
     refine .lD 7 hs7 ?_
     refine .lD 1000000 hs1000000 ?_
     clear hs3 hs37 hs38 hs4 hs5 hs6 hs7 hs1000000
     refine wR ?_
     refine lV (.int .i64 (IntKind.i64.wrap (v_27 + 1))) (r_add v_27 1 rfl rfl) ?_
     refine lM (.int .i64 (IntKind.i64.wrap (v_27 + 1))) ?_
     refine lN ?_
     exact ⟨n_24, by omega, ⟨col_30, (IntKind.i64.wrap (v_27 + 1)), least_31, n_24, rfl, hm, hst, h_22, hb_15, rfl, rfl, rfl, rfl, rfl, rfl, rfl, rfl⟩⟩
    refine wB (wS (wR ?_))
    obtain ⟨e_32, hj_33, hm⟩ := bS hm
    refine lV (.int .i64 e_32) (r_indexI (l := [IntKind.i64.wrap ((IntKind.i64.wrap (2 * i_23)) + 1), IntKind.i64.wrap ((IntKind.i64.wrap (2 * i_23)) + 2)]) (k := .i64) Tryz.underlying207 Tryz.sizeOf3 Tryz.isAgg3 rfl rfl rfl hj_33) ?_
    refine lA (.int .i64 e_32) ?_
    refine lN (wS ?_)
    refine Wp.cut (fun f w_41 => ∃ (col_42 : Col) (v_43 : Bool), m_dag_heap_pop_J2 v_27 least_28 (m_dag_heap_pop_L2 N p0_h e_1 l_19 i_23 n_24) v_43 = some r ∧ St w0 (colL [qc0, qc0_1] col) col_42 w_41 ∧ Own (Rep.int .i64) 3 441 col_42 w_41 a_20 cap_21 l_19 ∧ Box 184 440 col_42 w_41 g0 #[(.slice a_20 ((l_19.take (Int.toNat (IntKind.i64.wrap ((p0_h.length : Int) - 1)))).length) cap_21)] ∧ f 3 = (.slice a_20 l_19.length cap_21) ∧ f 37 = (.agg #[(.int .i64 (IntKind.i64.wrap ((IntKind.i64.wrap (2 * i_23)) + 1))), (.int .i64 (IntKind.i64.wrap ((IntKind.i64.wrap (2 * i_23)) + 2)))]) ∧ f 38 = (.int .i64 v_27) ∧ f 4 = (.int .i64 e_1) ∧ f 5 = (.int .i64 (IntKind.i64.wrap ((p0_h.length : Int) - 1))) ∧ f 54 = (.bool v_43) ∧ f 6 = (.int .i64 i_23) ∧ f 7 = (.int .i64 least_28) ∧ f 9 = (.int .i64 e_32) ∧ f 1000000 = (enc [])) ?_ ?_
    ·intro f w_41 hJ
     obtain ⟨col_42, v_43, hm, hst, h_22, hb_15, hs3, hs37, hs38, hs4, hs5, hs54, hs6, hs7, hs9, hs1000000⟩ := hJ
     rw [m_dag_heap_pop_J2.eq_1] at hm
     refine .lD 3 hs3 ?_
     refine .lD 37 hs37 ?_
     refine .lD 38 hs38 ?_
     refine .lD 4 hs4 ?_
     refine .lD 5 hs5 ?_
     refine .lD 54 hs54 ?_
     refine .lD 6 hs6 ?_
     refine .lD 7 hs7 ?_
     refine .lD 9 hs9 ?_
     refine .lD 1000000 hs1000000 ?_
     clear hs3 hs37 hs38 hs4 hs5 hs54 hs6 hs7 hs9 hs1000000
     refine wcond (v_43) rfl (fun hb => ?_) (fun hb => ?_)
     ·rw [if_pos hb] at hm
      clear hb
      cases hm
     rw [if_neg (by rw [hb]; decide)] at hm
     clear hb
     refine wK ?_
     exact ⟨col_42, least_28, hm, hst, h_22, hb_15, rfl, rfl, rfl, rfl, rfl, rfl, rfl, rfl⟩
    refine wquiet (col := col_26) (by kernel_rfl) (by kernel_rfl) ?_
    refine qv (v := (.int .i64 e_32)) rfl (fun _ hC => r_move rfl) ?_
    refine qv (v := (.int .i64 (IntKind.i64.wrap ((p0_h.length : Int) - 1)))) rfl (fun _ hC => r_move rfl) ?_
    refine qv (v := (.bool (decide (e_32 < (IntKind.i64.wrap ((p0_h.length : Int) - 1)))))) rfl (fun _ hC => r_lss e_32 (IntKind.i64.wrap ((p0_h.length : Int) - 1)) rfl rfl) ?_
    refine qv (v := (.bool (decide (e_32 < (IntKind.i64.wrap ((p0_h.length : Int) - 1)))))) rfl (fun _ hC => r_move rfl) ?_
    by_cases hg_44 : (decide (e_32 < (IntKind.i64.wrap ((p0_h.length : Int) - 1)))) = true
    ·rw [if_pos hg_44] at hm
     refine qg (b := decide (e_32 < (IntKind.i64.wrap ((p0_h.length : Int) - 1)))) 44 rfl rfl rfl (by rw [hg_44]; rfl) ?_
     refine qv (v := (.slice a_20 l_19.length cap_21)) rfl (fun _ hC => r_move rfl) ?_
     refine qg (b := decide (e_32 < (IntKind.i64.wrap ((p0_h.length : Int) - 1)))) 44 rfl rfl rfl (by rw [hg_44]; rfl) ?_
     refine qv (v := (.int .i64 e_32)) rfl (fun _ hC => r_move rfl) ?_
     refine qg (b := decide (e_32 < (IntKind.i64.wrap ((p0_h.length : Int) - 1)))) 44 rfl rfl rfl (by rw [hg_44]; rfl) ?_
     obtain ⟨e_45, hj_46, hm⟩ := bS hm
     refine qv (v := (sptr a_20 (Int.toNat e_32 * 1))) rfl (fun _ hC => r_idx Tryz.underlying184 Tryz.sizeOf3 rfl rfl (at?_some hj_46).1 (at?_some hj_46).2.1 (h_22.addr hj_46)) ?_
     refine qg (b := decide (e_32 < (IntKind.i64.wrap ((p0_h.length : Int) - 1)))) 44 rfl rfl rfl (by rw [hg_44]; rfl) ?_
     refine qv (v := (.int .i64 e_45)) rfl (fun _ hC => r_ld Tryz.isAgg3 rfl ((h_22.gr (Grow.of_below (col := col_26) hC.below)).atInt hj_46)) ?_
     refine qg (b := decide (e_32 < (IntKind.i64.wrap ((p0_h.length : Int) - 1)))) 44 rfl rfl rfl (by rw [hg_44]; rfl) ?_
     refine qv (v := (.slice a_20 l_19.length cap_21)) rfl (fun _ hC => r_move rfl) ?_
     refine qg (b := decide (e_32 < (IntKind.i64.wrap ((p0_h.length : Int) - 1)))) 44 rfl rfl rfl (by rw [hg_44]; rfl) ?_
     refine qv (v := (.int .i64 least_28)) rfl (fun _ hC => r_move rfl) ?_
     refine qg (b := decide (e_32 < (IntKind.i64.wrap ((p0_h.length : Int) - 1)))) 44 rfl rfl rfl (by rw [hg_44]; rfl) ?_
     obtain ⟨e_47, hj_48, hm⟩ := bS hm
     refine qv (v := (sptr a_20 (Int.toNat least_28 * 1))) rfl (fun _ hC => r_idx Tryz.underlying184 Tryz.sizeOf3 rfl rfl (at?_some hj_48).1 (at?_some hj_48).2.1 (h_22.addr hj_48)) ?_
     refine qg (b := decide (e_32 < (IntKind.i64.wrap ((p0_h.length : Int) - 1)))) 44 rfl rfl rfl (by rw [hg_44]; rfl) ?_
     refine qv (v := (.int .i64 e_47)) rfl (fun _ hC => r_ld Tryz.isAgg3 rfl ((h_22.gr (Grow.of_below (col := col_26) hC.below)).atInt hj_48)) ?_
     refine qg (b := decide (e_32 < (IntKind.i64.wrap ((p0_h.length : Int) - 1)))) 44 rfl rfl rfl (by rw [hg_44]; rfl) ?_
     refine qv (v := (.bool (decide (e_45 < e_47)))) rfl (fun _ hC => r_lss e_45 e_47 rfl rfl) ?_
     refine qv (v := (.bool (decide (e_45 < e_47)))) rfl (fun _ hC => r_pickT (congrArg Value.bool hg_44) rfl) ?_
     refine qnil ?_
     intro w_49 hC
     replace hC : Grow col_26 w_25 col_26 w_49 := .of_below hC.below
     replace h_22 := h_22.gr hC
     replace hb_15 := hb_15.gr hC
     replace hst := hst.grow hC
     exact ⟨col_26, (decide (e_45 < e_47)), hm, hst, h_22, hb_15, rfl, rfl, rfl, rfl, rfl, rfl, rfl, rfl, rfl, rfl⟩
    rw [if_neg hg_44] at hm
    replace hg_44 := Bool.eq_false_iff.2 hg_44
    refine qp (b := decide (e_32 < (IntKind.i64.wrap ((p0_h.length : Int) - 1)))) 44 rfl rfl rfl rfl (by rw [hg_44]; rfl) ?_
    refine qp (b := decide (e_32 < (IntKind.i64.wrap ((p0_h.length : Int) - 1)))) 44 rfl rfl rfl rfl (by rw [hg_44]; rfl) ?_
    refine qp (b := decide (e_32 < (IntKind.i64.wrap ((p0_h.length : Int) - 1)))) 44 rfl rfl rfl rfl (by rw [hg_44]; rfl) ?_
    refine qp (b := decide (e_32 < (IntKind.i64.wrap ((p0_h.length : Int) - 1)))) 44 rfl rfl rfl rfl (by rw [hg_44]; rfl) ?_
    refine qp (b := decide (e_32 < (IntKind.i64.wrap ((p0_h.length : Int) - 1)))) 44 rfl rfl rfl rfl (by rw [hg_44]; rfl) ?_
    refine qp (b := decide (e_32 < (IntKind.i64.wrap ((p0_h.length : Int) - 1)))) 44 rfl rfl rfl rfl (by rw [hg_44]; rfl) ?_
    refine qp (b := decide (e_32 < (IntKind.i64.wrap ((p0_h.length : Int) - 1)))) 44 rfl rfl rfl rfl (by rw [hg_44]; rfl) ?_
    refine qp (b := decide (e_32 < (IntKind.i64.wrap ((p0_h.length : Int) - 1)))) 44 rfl rfl rfl rfl (by rw [hg_44]; rfl) ?_
    refine qp (b := decide (e_32 < (IntKind.i64.wrap ((p0_h.length : Int) - 1)))) 44 rfl rfl rfl rfl (by rw [hg_44]; rfl) ?_
    refine qv (v := (.bool false)) rfl (fun _ hC => r_pickF (congrArg Value.bool hg_44) rfl) ?_
    refine qnil ?_
    intro w_50 hC
    replace hC : Grow col_26 w_25 col_26 w_50 := .of_below hC.below
    replace h_22 := h_22.gr hC
    replace hb_15 := hb_15.gr hC
    replace hst := hst.grow hC
    exact ⟨col_26, false, hm, hst, h_22, hb_15, rfl, rfl, rfl, rfl, rfl, rfl, rfl, rfl, rfl, rfl⟩
   rw [if_neg (by rw [hb]; decide)] at hm
   clear hb
   refine wexit (inB_hit ?_)
   refine wS (wS (wR ?_))
   refine lM (.int .i64 least_28) ?_
   refine lM (.int .i64 i_23) ?_
   refine lV (.bool (decide (least_28 = i_23))) (r_eql least_28 i_23 rfl rfl) ?_
   refine lN ?_
   refine wcond (decide (least_28 = i_23)) rfl (fun hb => ?_) (fun hb => ?_)
   ·rw [if_pos hb] at hm
    clear hb
    refine wS (wR ?_)
    refine lM (.int .i64 e_1) ?_
    refine lA (.int .i64 e_1) ?_
    refine lN ?_
    refine wret ?_
    cases hm
    exact ⟨rfl, colFL w0.heap.size [qc0, qc0_1] col col_26 (fun n => bif Nat.beq n 441 then qc0_1 else bif Nat.beq n 440 then qc0 else 0), a_20, cap_21, rfl, hst.finL rfl (fun n => bif Nat.beq n 441 then qc0_1 else bif Nat.beq n 440 then qc0 else 0), hst.finOwnL (g := (fun n => bif Nat.beq n 441 then qc0_1 else bif Nat.beq n 440 then qc0 else 0)) rfl (h_22.take (Int.toNat (IntKind.i64.wrap ((p0_h.length : Int) - 1)))) (by decide) (by decide) rfl, hst.finBoxL (g := (fun n => bif Nat.beq n 441 then qc0_1 else bif Nat.beq n 440 then qc0 else 0)) hb_15 (by decide) (by decide) rfl⟩
   rw [if_neg (by rw [hb]; decide)] at hm
   clear hb
   cases hm
theorem el3_151 : ElemOk Tryz.prog 3 1 8 := ⟨Tryz.t3, _, rfl, rfl, rfl, rfl, rfl⟩
def m_dag_heap_push_J1 (h_21 : List Int) (v_35 : Bool) : Option (List Int) :=
  if v_35 = true then none else (some h_21)
def m_dag_heap_push_L1 (N : Nat)  : Nat → (List Int) → Int → Option (List Int)
  | 0, _, _ => none
  | n_18 + 1, h_21, i_25 => if (decide (0 < i_25)) = true then ((at? h_21 i_25).bind fun e_37 => (at? h_21 (IntKind.i64.wrap (Int.tdiv (IntKind.i64.wrap (i_25 - 1)) 2))).bind fun e_39 => m_dag_heap_push_J1 h_21 (decide (e_37 < e_39))) else (m_dag_heap_push_J1 h_21 false)
def m_dag_heap_push (N : Nat) (p0_h : (List Int)) (p1_x : Int) : Option (List Int) :=
  chk ((p0_h.length + [p1_x].length) * 8 ≤ 140737488355328 ∧ p0_h.length + [p1_x].length ≤ maxLen) (m_dag_heap_push_L1 N N (p0_h ++ [p1_x]) (IntKind.i64.wrap (((p0_h ++ [p1_x]).length : Int) - 1)))
theorem c_dag_heap_push (N : Nat) (col : Col) (w0 : World) (qc0 : Nat) (qc0_1 : Nat) (hd : dstB [qc0, qc0_1] = true) (g0 : Nat) (p0_h : (List Int)) (a0_2 : Option Addr) (cap0_2 : Nat) (p1_x : Int) (h0_2 : Own (Rep.int .i64) 3 qc0_1 col w0 a0_2 cap0_2 p0_h) (hb0 : Box 184 qc0 col w0 g0 #[(.slice a0_2 p0_h.length cap0_2)]) (r : (List Int)) (hm : m_dag_heap_push N p0_h p1_x = some r) :
    Calls Tryz.prog 151 #[(.pointer (some ⟨g0, 0, none⟩)), (.int .i64 p1_x)] w0 (fun e w' => ∃ (col' : Col) (oa1 : Option Addr) (oc2 : Nat), e = .returned (.tuple #[]) ∧ KeepP (pS [qc0, qc0_1]) col w0 col' w' ∧ Own (Rep.int .i64) 3 qc0_1 col' w' oa1 oc2 r ∧ Box 184 qc0 col' w' g0 #[(.slice oa1 r.length oc2)]) := by
 refine calls_of0  (m := 66) (args := [(.pointer (some ⟨g0, 0, none⟩)), (.int .i64 p1_x)]) Tryz.func151 rfl rfl rfl rfl ?_
 rw [m_dag_heap_push.eq_1] at hm
 have hst := St.startL (l := [qc0, qc0_1]) rfl col w0
 replace hb0 := hb0.startL (dst_nz hd 0 rfl) (dst_ix hd 0 rfl)
 replace h0_2 := h0_2.startL (dst_nz hd 1 rfl) (dst_ix hd 1 rfl)
 refine wS (wR ?_)
 refine lM (.pointer (some ⟨g0, 0, none⟩)) ?_
 refine lM (.pointer (some ⟨g0, 0, none⟩)) ?_
 refine lV (.pointer (some ⟨g0, 0, none⟩)) (r_nilCheck rfl) ?_
 refine lV (.slice a0_2 p0_h.length cap0_2) (r_ld Tryz.isAgg184 rfl hb0.at1) ?_
 refine lM (.int .i64 p1_x) ?_
 refine l_lit (col := (colL [qc0, qc0_1] col)) (r := (Rep.int .i64)) (xs := [p1_x]) [(.int .i64 p1_x)] 1 rfl Tryz.underlying184 el3_151 rfl rfl rfl rfl rfl rfl (by intro v hv; simp only [List.mem_cons, List.not_mem_nil, or_false] at hv; subst hv; rfl) (RowsH.ofF (Rows.consF (r := (Rep.int .i64)) (x := p1_x) (cs := [(.int .i64 p1_x)]) (rd_int .i64 p1_x) Rows.nil0)) ?_
 intro a_1 w_2 col_3 hg_4 h_5
 obtain ⟨hb_6, hm⟩ := cS hm
 replace h0_2 := h0_2.gr hg_4
 refine l_ext (col := col_3) (w := w_2) (r := (Rep.int .i64)) (c := 441) (c2 := 441) (h0_2.ex) (h_5.srcN (NB.int (k := .i64))) rfl Tryz.underlying184 el3_151 rfl rfl rfl hb_6.1 hb_6.2 (by decide) ?_
 intro a_7 cap_8 w_9 col_10 hk_11 h_12
 clear h0_2
 refine lV (.pointer (some ⟨g0, 0, none⟩)) (r_nilCheck rfl) ?_
 replace hb0 := (hb0.gr hg_4).kpp hk_11
 refine l_bstore (v := (.slice a_7 ((p0_h ++ [p1_x]).length) cap_8)) hb0 Tryz.sizeOf184 rfl rfl (by intro u hu; simp only [Value.cells, List.mem_cons, List.not_mem_nil, or_false] at hu; subst hu; rfl) rfl rfl ?_
 intro w_13 hk_14 hs_15 hb_16
 clear hb0
 replace hb_16 : Box 184 440 col_10 w_13 g0 #[(.slice a_7 ((p0_h ++ [p1_x]).length) cap_8)] := hb_16
 replace h_12 := h_12.kp hk_14
 have h_17 := h_12.new
 clear h_12
 refine lN (wS (wR ?_))
 refine lM (.pointer (some ⟨g0, 0, none⟩)) ?_
 refine lV (.pointer (some ⟨g0, 0, none⟩)) (r_nilCheck rfl) ?_
 refine lV (.slice a_7 ((p0_h ++ [p1_x]).length) cap_8) (r_ld Tryz.isAgg184 rfl hb_16.at1) ?_
 refine lV (.int .i64 ((p0_h ++ [p1_x]).length : Int)) (r_len Tryz.underlying184 rfl) ?_
 refine lV (.int .i64 (IntKind.i64.wrap (((p0_h ++ [p1_x]).length : Int) - 1))) (r_sub ((p0_h ++ [p1_x]).length : Int) 1 rfl rfl) ?_
 refine lA (.int .i64 (IntKind.i64.wrap (((p0_h ++ [p1_x]).length : Int) - 1))) ?_
 refine lN (wB ?_)
 replace hst := ((hst.grow hg_4).kpp hk_11).kp hk_14 hs_15
 refine wloop (fun n f w_19 => ∃ (col_20 : Col) (a_22 : Option Addr) (cap_23 : Nat) (h_21 : List Int) (i_25 : Int) (n_18 : Nat), n_18 = n ∧ m_dag_heap_push_L1 N n_18 h_21 i_25 = some r ∧ St w0 (colL [qc0, qc0_1] col) col_20 w_19 ∧ Own (Rep.int .i64) 3 441 col_20 w_19 a_22 cap_23 h_21 ∧ Box 184 440 col_20 w_19 g0 #[(.slice a_22 h_21.length cap_23)] ∧ f 0 = (.pointer (some ⟨g0, 0, none⟩)) ∧ f 4 = (.int .i64 i_25) ∧ f 1000000 = (enc [])) N ⟨col_10, a_7, cap_8, (p0_h ++ [p1_x]), (IntKind.i64.wrap (((p0_h ++ [p1_x]).length : Int) - 1)), N, rfl, hm, hst, h_17, hb_16, rfl, rfl, rfl⟩ ?_
 clear hm; intro n f w_19 hI
 obtain ⟨col_20, a_22, cap_23, h_21, i_25, n_18, hn, hm, hst, h_24, hb_16, hs0, hs4, hs1000000⟩ := hI
 subst hn
 refine .lD 0 hs0 ?_
 refine .lD 4 hs4 ?_
 refine .lD 1000000 hs1000000 ?_
 clear hs0 hs4 hs1000000
 cases n_18 with
 | zero => rw [m_dag_heap_push_L1.eq_1] at hm; cases hm
 | succ n_18 =>
  rw [m_dag_heap_push_L1.eq_2] at hm
  refine wS (wS ?_)
  refine Wp.cut (fun f w_33 => ∃ (col_34 : Col) (v_35 : Bool), m_dag_heap_push_J1 h_21 v_35 = some r ∧ St w0 (colL [qc0, qc0_1] col) col_34 w_33 ∧ Own (Rep.int .i64) 3 441 col_34 w_33 a_22 cap_23 h_21 ∧ Box 184 440 col_34 w_33 g0 #[(.slice a_22 h_21.length cap_23)] ∧ f 0 = (.pointer (some ⟨g0, 0, none⟩)) ∧ f 36 = (.bool v_35) ∧ f 4 = (.int .i64 i_25) ∧ f 1000000 = (enc [])) ?_ ?_
  ·intro f w_33 hJ
   obtain ⟨col_34, v_35, hm, hst, h_24, hb_16, hs0, hs36, hs4, hs1000000⟩ := hJ
   rw [m_dag_heap_push_J1.eq_1] at hm
   refine .lD 0 hs0 ?_
   refine .lD 36 hs36 ?_
   refine .lD 4 hs4 ?_
   refine .lD 1000000 hs1000000 ?_
   clear hs0 hs36 hs4 hs1000000
   refine wcond (v_35) rfl (fun hb => ?_) (fun hb => ?_)
   ·rw [if_pos hb] at hm
    clear hb
    cases hm
   rw [if_neg (by rw [hb]; decide)] at hm
   clear hb
   refine wexit (inB_hit ?_)
   cases hm
   exact ⟨rfl, colFL w0.heap.size [qc0, qc0_1] col col_34 (fun n => bif Nat.beq n 441 then qc0_1 else bif Nat.beq n 440 then qc0 else 0), a_22, cap_23, rfl, hst.finL rfl (fun n => bif Nat.beq n 441 then qc0_1 else bif Nat.beq n 440 then qc0 else 0), hst.finOwnL (g := (fun n => bif Nat.beq n 441 then qc0_1 else bif Nat.beq n 440 then qc0 else 0)) rfl h_24 (by decide) (by decide) rfl, hst.finBoxL (g := (fun n => bif Nat.beq n 441 then qc0_1 else bif Nat.beq n 440 then qc0 else 0)) hb_16 (by decide) (by decide) rfl⟩
  refine wquiet (col := col_20) (by kernel_rfl) (by kernel_rfl) ?_
  refine qv (v := (.int .i64 i_25)) rfl (fun _ hC => r_move rfl) ?_
  refine qv (v := (.bool (decide (0 < i_25)))) rfl (fun _ hC => r_gtr i_25 0 rfl rfl) ?_
  refine qv (v := (.bool (decide (0 < i_25)))) rfl (fun _ hC => r_move rfl) ?_
  by_cases hg_36 : (decide (0 < i_25)) = true
  ·rw [if_pos hg_36] at hm
   refine qg (b := decide (0 < i_25)) 20 rfl rfl rfl (by rw [hg_36]; rfl) ?_
   refine qv (v := (.pointer (some ⟨g0, 0, none⟩))) rfl (fun _ hC => r_move rfl) ?_
   refine qg (b := decide (0 < i_25)) 20 rfl rfl rfl (by rw [hg_36]; rfl) ?_
   refine qv (v := (.pointer (some ⟨g0, 0, none⟩))) rfl (fun _ hC => r_nilCheck rfl) ?_
   refine qg (b := decide (0 < i_25)) 20 rfl rfl rfl (by rw [hg_36]; rfl) ?_
   refine qv (v := (.slice a_22 h_21.length cap_23)) rfl (fun _ hC => r_ld Tryz.isAgg184 rfl (hb_16.at1.gr (Grow.of_below (col := col_20) hC.below))) ?_
   refine qg (b := decide (0 < i_25)) 20 rfl rfl rfl (by rw [hg_36]; rfl) ?_
   refine qv (v := (.int .i64 i_25)) rfl (fun _ hC => r_move rfl) ?_
   refine qg (b := decide (0 < i_25)) 20 rfl rfl rfl (by rw [hg_36]; rfl) ?_
   obtain ⟨e_37, hj_38, hm⟩ := bS hm
   refine qv (v := (sptr a_22 (Int.toNat i_25 * 1))) rfl (fun _ hC => r_idx Tryz.underlying184 Tryz.sizeOf3 rfl rfl (at?_some hj_38).1 (at?_some hj_38).2.1 (h_24.addr hj_38)) ?_
   refine qg (b := decide (0 < i_25)) 20 rfl rfl rfl (by rw [hg_36]; rfl) ?_
   refine qv (v := (.int .i64 e_37)) rfl (fun _ hC => r_ld Tryz.isAgg3 rfl ((h_24.gr (Grow.of_below (col := col_20) hC.below)).atInt hj_38)) ?_
   refine qg (b := decide (0 < i_25)) 20 rfl rfl rfl (by rw [hg_36]; rfl) ?_
   refine qv (v := (.pointer (some ⟨g0, 0, none⟩))) rfl (fun _ hC => r_move rfl) ?_
   refine qg (b := decide (0 < i_25)) 20 rfl rfl rfl (by rw [hg_36]; rfl) ?_
   refine qv (v := (.pointer (some ⟨g0, 0, none⟩))) rfl (fun _ hC => r_nilCheck rfl) ?_
   refine qg (b := decide (0 < i_25)) 20 rfl rfl rfl (by rw [hg_36]; rfl) ?_
   refine qv (v := (.slice a_22 h_21.length cap_23)) rfl (fun _ hC => r_ld Tryz.isAgg184 rfl (hb_16.at1.gr (Grow.of_below (col := col_20) hC.below))) ?_
   refine qg (b := decide (0 < i_25)) 20 rfl rfl rfl (by rw [hg_36]; rfl) ?_
   refine qv (v := (.int .i64 i_25)) rfl (fun _ hC => r_move rfl) ?_
   refine qg (b := decide (0 < i_25)) 20 rfl rfl rfl (by rw [hg_36]; rfl) ?_
   refine qv (v := (.int .i64 (IntKind.i64.wrap (i_25 - 1)))) rfl (fun _ hC => r_sub i_25 1 rfl rfl) ?_
   refine qg (b := decide (0 < i_25)) 20 rfl rfl rfl (by rw [hg_36]; rfl) ?_
   refine qv (v := (.int .i64 (IntKind.i64.wrap (Int.tdiv (IntKind.i64.wrap (i_25 - 1)) 2)))) rfl (fun _ hC => r_quo (IntKind.i64.wrap (i_25 - 1)) 2 rfl rfl (by decide)) ?_
   refine qg (b := decide (0 < i_25)) 20 rfl rfl rfl (by rw [hg_36]; rfl) ?_
   obtain ⟨e_39, hj_40, hm⟩ := bS hm
   refine qv (v := (sptr a_22 (Int.toNat (IntKind.i64.wrap (Int.tdiv (IntKind.i64.wrap (i_25 - 1)) 2)) * 1))) rfl (fun _ hC => r_idx Tryz.underlying184 Tryz.sizeOf3 rfl rfl (at?_some hj_40).1 (at?_some hj_40).2.1 (h_24.addr hj_40)) ?_
   refine qg (b := decide (0 < i_25)) 20 rfl rfl rfl (by rw [hg_36]; rfl) ?_
   refine qv (v := (.int .i64 e_39)) rfl (fun _ hC => r_ld Tryz.isAgg3 rfl ((h_24.gr (Grow.of_below (col := col_20) hC.below)).atInt hj_40)) ?_
   refine qg (b := decide (0 < i_25)) 20 rfl rfl rfl (by rw [hg_36]; rfl) ?_
   refine qv (v := (.bool (decide (e_37 < e_39)))) rfl (fun _ hC => r_lss e_37 e_39 rfl rfl) ?_
   refine qv (v := (.bool (decide (e_37 < e_39)))) rfl (fun _ hC => r_pickT (congrArg Value.bool hg_36) rfl) ?_
   refine qnil ?_
   intro w_41 hC
   replace hC : Grow col_20 w_19 col_20 w_41 := .of_below hC.below
   replace h_24 := h_24.gr hC
   replace hb_16 := hb_16.gr hC
   replace hst := hst.grow hC
   exact ⟨col_20, (decide (e_37 < e_39)), hm, hst, h_24, hb_16, rfl, rfl, rfl, rfl⟩
  rw [if_neg hg_36] at hm
  replace hg_36 := Bool.eq_false_iff.2 hg_36
  refine qp (b := decide (0 < i_25)) 20 rfl rfl rfl rfl (by rw [hg_36]; rfl) ?_
  refine qp (b := decide (0 < i_25)) 20 rfl rfl rfl rfl (by rw [hg_36]; rfl) ?_
  refine qp (b := decide (0 < i_25)) 20 rfl rfl rfl rfl (by rw [hg_36]; rfl) ?_
  refine qp (b := decide (0 < i_25)) 20 rfl rfl rfl rfl (by rw [hg_36]; rfl) ?_
  refine qp (b := decide (0 < i_25)) 20 rfl rfl rfl rfl (by rw [hg_36]; rfl) ?_
  refine qp (b := decide (0 < i_25)) 20 rfl rfl rfl rfl (by rw [hg_36]; rfl) ?_
  refine qp (b := decide (0 < i_25)) 20 rfl rfl rfl rfl (by rw [hg_36]; rfl) ?_
  refine qp (b := decide (0 < i_25)) 20 rfl rfl rfl rfl (by rw [hg_36]; rfl) ?_
  refine qp (b := decide (0 < i_25)) 20 rfl rfl rfl rfl (by rw [hg_36]; rfl) ?_
  refine qp (b := decide (0 < i_25)) 20 rfl rfl rfl rfl (by rw [hg_36]; rfl) ?_
  refine qp (b := decide (0 < i_25)) 20 rfl rfl rfl rfl (by rw [hg_36]; rfl) ?_
  refine qp (b := decide (0 < i_25)) 20 rfl rfl rfl rfl (by rw [hg_36]; rfl) ?_
  refine qp (b := decide (0 < i_25)) 20 rfl rfl rfl rfl (by rw [hg_36]; rfl) ?_
  refine qp (b := decide (0 < i_25)) 20 rfl rfl rfl rfl (by rw [hg_36]; rfl) ?_
  refine qp (b := decide (0 < i_25)) 20 rfl rfl rfl rfl (by rw [hg_36]; rfl) ?_
  refine qv (v := (.bool false)) rfl (fun _ hC => r_pickF (congrArg Value.bool hg_36) rfl) ?_
  refine qnil ?_
  intro w_42 hC
  replace hC : Grow col_20 w_19 col_20 w_42 := .of_below hC.below
  replace h_24 := h_24.gr hC
  replace hb_16 := hb_16.gr hC
  replace hst := hst.grow hC
  exact ⟨col_20, false, hm, hst, h_24, hb_16, rfl, rfl, rfl, rfl⟩

end Go.Proofs.YtonkjfnjadofpaaGreat
