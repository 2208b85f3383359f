/-
  What functions of the program compute, as plain Lean functions (m_..), and proofs that they compute it (c_..). Printed by a program of the author; no conditions.
-/
import Derived.Test.YtonkjfnjadofpaaGreatCodeNamesBFloat
import Derived.Test.YtonkjfnjadofpaaGreatProg
import Derived.Test.YtonkjfnjadofpaaGreatCodeNamesBThree
import Derived.Test.YtonkjfnjadofpaaGreatCodeNamesF2
set_option linter.unusedVariables false
set_option maxRecDepth 100000
set_option maxHeartbeats 2000000
namespace Go.Proofs.YtonkjfnjadofpaaGreat
open Go Go.RowKit

def m_frac_New (N : Nat) (p0_num : (Bool × (List Int))) (p1_den : (Bool × (List Int))) : Option (((Bool × (List Int)) × (List Int)) × Int) :=
  (m_whole_Sign N (p1_den.1, p1_den.2)).bind fun r_16 => if (decide (r_16 = 0)) = true then none else ((m_frac_lowest N (!decide (p0_num.1 = p1_den.1)) p0_num.2 p1_den.2).bind fun r_20 => some (((r_20.1.1, r_20.1.2), r_20.2), 0))
theorem c_frac_New (N : Nat) (c1 : Nat) (c2 : Nat) (col : Col) (w0 : World) (a0_0 : Option Addr) (cap0_0 : Nat) (p0_num : (Bool × (List Int))) (a1_0 : Option Addr) (cap1_0 : Nat) (p1_den : (Bool × (List Int))) (h0_0 : Sl (Rep.int .u32) col w0 a0_0 cap0_0 p0_num.2) (h1_0 : Sl (Rep.int .u32) col w0 a1_0 cap1_0 p1_den.2) (r : (((Bool × (List Int)) × (List Int)) × Int)) (hm : m_frac_New N p0_num p1_den = some r) :
    Calls Tryz.prog 41 #[(.agg #[(.bool p0_num.1), (.slice a0_0 p0_num.2.length cap0_0)]), (.agg #[(.bool p1_den.1), (.slice a1_0 p1_den.2.length cap1_0)])] w0 (fun e w' => ∃ (col' : Col) (ra1 : Option Addr) (rc2 : Nat) (ra4 : Option Addr) (rc5 : Nat), e = .returned (.tuple #[(.agg #[(.bool r.1.1.1), (.slice ra1 r.1.1.2.length rc2), (.slice ra4 r.1.2.length rc5)]), (.int .i64 r.2)]) ∧ Grow col w0 col' w' ∧ Own (Rep.int .u32) 114 c1 col' w' ra1 rc2 r.1.1.2 ∧ Own (Rep.int .u32) 114 c2 col' w' ra4 rc5 r.1.2) := by
 refine calls_ofR (m := 20) (args := [(.agg #[(.bool p0_num.1), (.slice a0_0 p0_num.2.length cap0_0)]), (.agg #[(.bool p1_den.1), (.slice a1_0 p1_den.2.length cap1_0)])]) Tryz.func41 rfl rfl rfl ?_
 rw [m_frac_New.eq_1] at hm
 have hst := St.start col w0
 refine wS (wR ?_)
 refine l_box (col := (col0 col)) (v := (.agg #[(.bool p0_num.1), (.slice a0_0 p0_num.2.length cap0_0)])) 1 rfl rfl ?_
 intro g_1 w_2 col_3 hg_4 hb_5
 replace hb_5 : Box 38 1 col_3 w_2 g_1 #[(.bool p0_num.1), (.slice a0_0 p0_num.2.length cap0_0)] := hb_5
 refine l_box (col := col_3) (v := (.agg #[(.bool p1_den.1), (.slice a1_0 p1_den.2.length cap1_0)])) 2 rfl rfl ?_
 intro g_6 w_7 col_8 hg_9 hb_10
 replace hb_10 : Box 38 2 col_8 w_7 g_6 #[(.bool p1_den.1), (.slice a1_0 p1_den.2.length cap1_0)] := hb_10
 refine l_alloc (col := col_8) (v := (.agg #[(.bool false), (.slice none (([] : List Int).length) 0), (.slice none (([] : List Int).length) 0)])) 3 rfl Tryz.zeroValue40 ?_
 intro g_11 w_12 col_13 hg_14 hb_15
 replace hb_15 : Box 40 3 col_13 w_12 g_11 #[(.bool false), (.slice none (([] : List Int).length) 0), (.slice none (([] : List Int).length) 0)] := hb_15
 refine lA (.int .i64 0) ?_
 refine lN (wS (wS (wR ?_)))
 replace hb_10 := hb_10.gr hg_14
 refine lV (.agg #[(.bool p1_den.1), (.slice a1_0 p1_den.2.length cap1_0)]) (r_ldN Tryz.isAgg38 Tryz.sizeOf38 rfl rfl hb_10.atN) ?_
 obtain ⟨r_16, hr_17, hm⟩ := bS hm
 replace h1_0 := (((h1_0.keep (Stay.start col w0)).gr hg_4).gr hg_9).gr hg_14
 refine lc rfl rfl (r_call1 Tryz.call76 rfl) (c_whole_Sign N col_13 _ a1_0 cap1_0 (p1_den.1, p1_den.2) h1_0 r_16 hr_17) ?_
 rintro _ w_18 ⟨rfl, hg_19⟩
 refine ⟨_, rfl, ?_⟩
 replace hg_19 : Grow col_13 w_12 col_13 w_18 := .of_below hg_19
 refine lV (.bool (decide (r_16 = 0))) (r_eql r_16 0 rfl rfl) ?_
 refine lN ?_
 replace h0_0 := ((((h0_0.keep (Stay.start col w0)).gr hg_4).gr hg_9).gr hg_14).gr hg_19
 replace hst := (((hst.grow hg_4).grow hg_9).grow hg_14).grow hg_19
 replace hb_5 := ((hb_5.gr hg_9).gr hg_14).gr hg_19
 replace h1_0 := h1_0.gr hg_19
 replace hb_10 := hb_10.gr hg_19
 replace hb_15 := hb_15.gr hg_19
 refine wcond (decide (r_16 = 0)) rfl (fun hb => ?_) (fun hb => ?_)
 ·rw [if_pos hb] at hm
  clear hb
  cases hm
 rw [if_neg (by rw [hb]; decide)] at hm
 clear hb
 refine wK (wS (wR ?_))
 refine lV (.pointer ((some (⟨g_1, 0, none⟩ : Addr)).map (·.add 0))) (rF (sz := 1) (off := 0) Tryz.underlying38 rfl Tryz.sizeOf4 (by decide) rfl rfl ⟨_, _, rfl⟩) ?_
 refine lV (.bool p0_num.1) (r_ld Tryz.isAgg4 rfl ((hb_5.atN).nth (q := 0) (v := (.bool p0_num.1)) rfl)) ?_
 refine lV (.pointer ((some (⟨g_6, 0, none⟩ : Addr)).map (·.add 0))) (rF (sz := 1) (off := 0) Tryz.underlying38 rfl Tryz.sizeOf4 (by decide) rfl rfl ⟨_, _, rfl⟩) ?_
 refine lV (.bool p1_den.1) (r_ld Tryz.isAgg4 rfl ((hb_10.atN).nth (q := 0) (v := (.bool p1_den.1)) rfl)) ?_
 refine lV (.bool (!decide (p0_num.1 = p1_den.1))) (r_neqB p0_num.1 p1_den.1 Tryz.underlying4 rfl rfl) ?_
 refine lV (.pointer ((some (⟨g_1, 0, none⟩ : Addr)).map (·.add 1))) (rF (sz := 1) (off := 1) Tryz.underlying38 rfl Tryz.sizeOf36 (by decide) rfl rfl ⟨_, _, rfl⟩) ?_
 refine lV (.slice a0_0 p0_num.2.length cap0_0) (r_ld Tryz.isAgg36 rfl ((hb_5.atN).nth (q := 1) (v := (.slice a0_0 p0_num.2.length cap0_0)) rfl)) ?_
 refine lV (.pointer ((some (⟨g_6, 0, none⟩ : Addr)).map (·.add 1))) (rF (sz := 1) (off := 1) Tryz.underlying38 rfl Tryz.sizeOf36 (by decide) rfl rfl ⟨_, _, rfl⟩) ?_
 refine lV (.slice a1_0 p1_den.2.length cap1_0) (r_ld Tryz.isAgg36 rfl ((hb_10.atN).nth (q := 1) (v := (.slice a1_0 p1_den.2.length cap1_0)) rfl)) ?_
 obtain ⟨r_20, hr_21, hm⟩ := bS hm
 refine lc rfl rfl (r_call3 Tryz.call55 rfl rfl rfl) (c_frac_lowest N 4 5 col_13 _ (!decide (p0_num.1 = p1_den.1)) a0_0 cap0_0 p0_num.2 a1_0 cap1_0 p1_den.2 h0_0 h1_0 r_20 hr_21) ?_
 rintro _ w_28 ⟨col_30, ra_22, rc_23, ra_25, rc_26, rfl, hg_29, rh_24, rh_27⟩
 refine ⟨_, rfl, ?_⟩
 replace hb_15 := hb_15.gr hg_29
 refine l_bstore (v := (.agg #[(.bool r_20.1.1), (.slice ra_22 r_20.1.2.length rc_23), (.slice ra_25 r_20.2.length rc_26)])) hb_15 Tryz.sizeOf40 rfl rfl (by intro u hu; simp only [Value.cells, List.mem_cons, List.not_mem_nil, or_false] at hu; rcases hu with rfl | rfl | rfl <;> rfl) rfl rfl ?_
 intro w_31 hk_32 hs_33 hb_34
 clear hb_15
 replace hb_34 : Box 40 3 col_30 w_31 g_11 #[(.bool r_20.1.1), (.slice ra_22 r_20.1.2.length rc_23), (.slice ra_25 r_20.2.length rc_26)] := hb_34
 refine lA (.int .i64 0) ?_
 refine lN ?_
 refine wret ?_
 cases hm
 replace hst := (hst.grow hg_29).kp hk_32 hs_33
 replace rh_24 := rh_24.kp hk_32
 replace rh_27 := rh_27.kp hk_32
 exact ⟨rfl, _, res_at rfl rfl Tryz.isAgg40 Tryz.sizeOf40 rfl rfl hb_34.atN rfl rfl, colF w0.heap.size col col_30 (fun n => bif Nat.beq n 4 then c1 else bif Nat.beq n 5 then c2 else 0), ra_22, rc_23, ra_25, rc_26, rfl, hst.fin (fun n => bif Nat.beq n 4 then c1 else bif Nat.beq n 5 then c2 else 0), hst.finOwn (g := (fun n => bif Nat.beq n 4 then c1 else bif Nat.beq n 5 then c2 else 0)) rfl rh_24 (by decide) (by decide) rfl, hst.finOwn (g := (fun n => bif Nat.beq n 4 then c1 else bif Nat.beq n 5 then c2 else 0)) rfl rh_27 (by decide) (by decide) rfl⟩
def m_frac_Of (N : Nat) (p0_num : Int) (p1_den : Int) : Option (((Bool × (List Int)) × (List Int)) × Int) :=
  (m_whole_Of N p0_num).bind fun r_6 => (m_whole_Of N p1_den).bind fun r_14 => (m_frac_New N (r_6.1, r_6.2) (r_14.1, r_14.2)).bind fun r_22 => some (((r_22.1.1.1, r_22.1.1.2), r_22.1.2), r_22.2)
theorem c_frac_Of (N : Nat) (c1 : Nat) (c2 : Nat) (col : Col) (w0 : World) (p0_num : Int) (p1_den : Int) (r : (((Bool × (List Int)) × (List Int)) × Int)) (hm : m_frac_Of N p0_num p1_den = some r) :
    Calls Tryz.prog 30 #[(.int .i64 p0_num), (.int .i64 p1_den)] w0 (fun e w' => ∃ (col' : Col) (ra1 : Option Addr) (rc2 : Nat) (ra4 : Option Addr) (rc5 : Nat), e = .returned (.tuple #[(.agg #[(.bool r.1.1.1), (.slice ra1 r.1.1.2.length rc2), (.slice ra4 r.1.2.length rc5)]), (.int .i64 r.2)]) ∧ Grow col w0 col' w' ∧ Own (Rep.int .u32) 114 c1 col' w' ra1 rc2 r.1.1.2 ∧ Own (Rep.int .u32) 114 c2 col' w' ra4 rc5 r.1.2) := by
 refine calls_ofR (m := 13) (args := [(.int .i64 p0_num), (.int .i64 p1_den)]) Tryz.func30 rfl rfl rfl ?_
 rw [m_frac_Of.eq_1] at hm
 have hst := St.start col w0
 refine wS (wR ?_)
 refine l_alloc (col := (col0 col)) (v := (.agg #[(.bool false), (.slice none (([] : List Int).length) 0), (.slice none (([] : List Int).length) 0)])) 1 rfl Tryz.zeroValue40 ?_
 intro g_1 w_2 col_3 hg_4 hb_5
 replace hb_5 : Box 40 1 col_3 w_2 g_1 #[(.bool false), (.slice none (([] : List Int).length) 0), (.slice none (([] : List Int).length) 0)] := hb_5
 refine lA (.int .i64 0) ?_
 refine lN (wS (wR ?_))
 refine lM (.int .i64 p0_num) ?_
 obtain ⟨r_6, hr_7, hm⟩ := bS hm
 refine lc rfl rfl (r_call1 Tryz.call82 rfl) (c_whole_Of N 2 col_3 _ p0_num r_6 hr_7) ?_
 rintro _ w_11 ⟨col_13, ra_8, rc_9, rfl, hg_12, rh_10⟩
 refine ⟨_, rfl, ?_⟩
 refine lM (.int .i64 p1_den) ?_
 obtain ⟨r_14, hr_15, hm⟩ := bS hm
 refine lc rfl rfl (r_call1 Tryz.call82 rfl) (c_whole_Of N 3 col_13 _ p1_den r_14 hr_15) ?_
 rintro _ w_19 ⟨col_21, ra_16, rc_17, rfl, hg_20, rh_18⟩
 refine ⟨_, rfl, ?_⟩
 obtain ⟨r_22, hr_23, hm⟩ := bS hm
 replace rh_10 := rh_10.gr hg_20
 refine lc rfl rfl (r_call2 Tryz.call41 rfl rfl) (c_frac_New N 4 5 (frC 3 (frC 2 col_21)) _ ra_8 rc_9 (r_6.1, r_6.2) ra_16 rc_17 (r_14.1, r_14.2) ((rh_10.toSlF (Froz.int .u32)).froz 3) ((rh_18.froz 2 (by decide)).toSlF (Froz.int .u32)) r_22 hr_23) ?_
 rintro _ w_30 ⟨col_32, ra_24, rc_25, ra_27, rc_28, rfl, hg_31, rh_26, rh_29⟩
 refine ⟨_, rfl, ?_⟩
 replace rh_26 := rh_26.thaw (flat_int .u32) hg_31 (((Fz.refl (col := col_21)).froz 2).froz 3) (by decide)
 replace rh_29 := rh_29.thaw (flat_int .u32) hg_31 (((Fz.refl (col := col_21)).froz 2).froz 3) (by decide)
 replace hg_31 := hg_31.thawR (col := col_21)
 generalize colR w_19.heap.size col_21 col_32 = col_33 at *
 refine lV (.agg #[(.bool r_22.1.1.1), (.slice ra_24 r_22.1.1.2.length rc_25), (.slice ra_27 r_22.1.2.length rc_28)]) (r_extract rfl rfl) ?_
 refine lV (.int .i64 r_22.2) (r_extract rfl rfl) ?_
 replace hb_5 := ((hb_5.gr hg_12).gr hg_20).gr hg_31
 refine l_bstore (v := (.agg #[(.bool r_22.1.1.1), (.slice ra_24 r_22.1.1.2.length rc_25), (.slice ra_27 r_22.1.2.length rc_28)])) hb_5 Tryz.sizeOf40 rfl rfl (by intro u hu; simp only [Value.cells, List.mem_cons, List.not_mem_nil, or_false] at hu; rcases hu with rfl | rfl | rfl <;> rfl) rfl rfl ?_
 intro w_34 hk_35 hs_36 hb_37
 clear hb_5
 replace hb_37 : Box 40 1 col_33 w_34 g_1 #[(.bool r_22.1.1.1), (.slice ra_24 r_22.1.1.2.length rc_25), (.slice ra_27 r_22.1.2.length rc_28)] := hb_37
 refine lA (.int .i64 r_22.2) ?_
 refine lN ?_
 refine wret ?_
 cases hm
 replace hst := ((((hst.grow hg_4).grow hg_12).grow hg_20).grow hg_31).kp hk_35 hs_36
 replace rh_26 := rh_26.kp hk_35
 replace rh_29 := rh_29.kp hk_35
 exact ⟨rfl, _, res_at rfl rfl Tryz.isAgg40 Tryz.sizeOf40 rfl rfl hb_37.atN rfl rfl, colF w0.heap.size col col_33 (fun n => bif Nat.beq n 4 then c1 else bif Nat.beq n 5 then c2 else 0), ra_24, rc_25, ra_27, rc_28, rfl, hst.fin (fun n => bif Nat.beq n 4 then c1 else bif Nat.beq n 5 then c2 else 0), hst.finOwn (g := (fun n => bif Nat.beq n 4 then c1 else bif Nat.beq n 5 then c2 else 0)) rfl rh_26 (by decide) (by decide) rfl, hst.finOwn (g := (fun n => bif Nat.beq n 4 then c1 else bif Nat.beq n 5 then c2 else 0)) rfl rh_29 (by decide) (by decide) rfl⟩
def m_model_one (N : Nat)  : Option ((Bool × (List Int)) × (List Int)) :=
  (m_frac_Of N 1 1).bind fun r_6 => some ((r_6.1.1.1, r_6.1.1.2), r_6.1.2)
theorem c_model_one (N : Nat) (c1 : Nat) (c2 : Nat) (col : Col) (w0 : World)  (r : ((Bool × (List Int)) × (List Int))) (hm : m_model_one N = some r) :
    Calls Tryz.prog 141 #[] w0 (fun e w' => ∃ (col' : Col) (ra1 : Option Addr) (rc2 : Nat) (ra4 : Option Addr) (rc5 : Nat), e = .returned ((.agg #[(.bool r.1.1), (.slice ra1 r.1.2.length rc2), (.slice ra4 r.2.length rc5)])) ∧ Grow col w0 col' w' ∧ Own (Rep.int .u32) 114 c1 col' w' ra1 rc2 r.1.2 ∧ Own (Rep.int .u32) 114 c2 col' w' ra4 rc5 r.2) := by
 refine calls_ofR (m := 8) (args := []) Tryz.func141 rfl rfl rfl ?_
 rw [m_model_one.eq_1] at hm
 have hst := St.start col w0
 refine wS (wR ?_)
 refine l_alloc (col := (col0 col)) (v := (.agg #[(.bool false), (.slice none (([] : List Int).length) 0), (.slice none (([] : List Int).length) 0)])) 1 rfl Tryz.zeroValue40 ?_
 intro g_1 w_2 col_3 hg_4 hb_5
 replace hb_5 : Box 40 1 col_3 w_2 g_1 #[(.bool false), (.slice none (([] : List Int).length) 0), (.slice none (([] : List Int).length) 0)] := hb_5
 refine lN (wS (wR ?_))
 obtain ⟨r_6, hr_7, hm⟩ := bS hm
 refine lc rfl rfl (r_call2 Tryz.call30 rfl rfl) (c_frac_Of N 2 3 col_3 _ 1 1 r_6 hr_7) ?_
 rintro _ w_14 ⟨col_16, ra_8, rc_9, ra_11, rc_12, rfl, hg_15, rh_10, rh_13⟩
 refine ⟨_, rfl, ?_⟩
 refine lM (.tuple #[(.agg #[(.bool r_6.1.1.1), (.slice ra_8 r_6.1.1.2.length rc_9), (.slice ra_11 r_6.1.2.length rc_12)]), (.int .i64 r_6.2)]) ?_
 refine lV (.agg #[(.bool r_6.1.1.1), (.slice ra_8 r_6.1.1.2.length rc_9), (.slice ra_11 r_6.1.2.length rc_12)]) (r_extract rfl rfl) ?_
 refine lV (.int .i64 r_6.2) (r_extract rfl rfl) ?_
 refine l_alloc (col := col_16) (v := (.agg #[(.bool false), (.slice none (([] : List Int).length) 0), (.slice none (([] : List Int).length) 0)])) 4 rfl Tryz.zeroValue40 ?_
 intro g_17 w_18 col_19 hg_20 hb_21
 replace hb_21 : Box 40 4 col_19 w_18 g_17 #[(.bool false), (.slice none (([] : List Int).length) 0), (.slice none (([] : List Int).length) 0)] := hb_21
 refine l_bstore (v := (.agg #[(.bool r_6.1.1.1), (.slice ra_8 r_6.1.1.2.length rc_9), (.slice ra_11 r_6.1.2.length rc_12)])) hb_21 Tryz.sizeOf40 rfl rfl (by intro u hu; simp only [Value.cells, List.mem_cons, List.not_mem_nil, or_false] at hu; rcases hu with rfl | rfl | rfl <;> rfl) rfl rfl ?_
 intro w_22 hk_23 hs_24 hb_25
 clear hb_21
 replace hb_25 : Box 40 4 col_19 w_22 g_17 #[(.bool r_6.1.1.1), (.slice ra_8 r_6.1.1.2.length rc_9), (.slice ra_11 r_6.1.2.length rc_12)] := hb_25
 refine lA (.int .i64 r_6.2) ?_
 refine lN (wS (wR ?_))
 refine lV (.agg #[(.bool r_6.1.1.1), (.slice ra_8 r_6.1.1.2.length rc_9), (.slice ra_11 r_6.1.2.length rc_12)]) (r_ldN Tryz.isAgg40 Tryz.sizeOf40 rfl rfl hb_25.atN) ?_
 replace hb_5 := ((hb_5.gr hg_15).gr hg_20).kp hk_23
 refine l_bstore (v := (.agg #[(.bool r_6.1.1.1), (.slice ra_8 r_6.1.1.2.length rc_9), (.slice ra_11 r_6.1.2.length rc_12)])) hb_5 Tryz.sizeOf40 rfl rfl (by intro u hu; simp only [Value.cells, List.mem_cons, List.not_mem_nil, or_false] at hu; rcases hu with rfl | rfl | rfl <;> rfl) rfl rfl ?_
 intro w_26 hk_27 hs_28 hb_29
 clear hb_5
 replace hb_29 : Box 40 1 col_19 w_26 g_1 #[(.bool r_6.1.1.1), (.slice ra_8 r_6.1.1.2.length rc_9), (.slice ra_11 r_6.1.2.length rc_12)] := hb_29
 refine lN ?_
 refine wret ?_
 cases hm
 replace hst := ((((hst.grow hg_4).grow hg_15).grow hg_20).kp hk_23 hs_24).kp hk_27 hs_28
 replace rh_10 := ((rh_10.gr hg_20).kp hk_23).kp hk_27
 replace rh_13 := ((rh_13.gr hg_20).kp hk_23).kp hk_27
 exact ⟨rfl, _, res_a rfl rfl Tryz.isAgg40 Tryz.sizeOf40 rfl rfl hb_29.atN, colF w0.heap.size col col_19 (fun n => bif Nat.beq n 2 then c1 else bif Nat.beq n 3 then c2 else 0), ra_8, rc_9, ra_11, rc_12, rfl, hst.fin (fun n => bif Nat.beq n 2 then c1 else bif Nat.beq n 3 then c2 else 0), hst.finOwn (g := (fun n => bif Nat.beq n 2 then c1 else bif Nat.beq n 3 then c2 else 0)) rfl rh_10 (by decide) (by decide) rfl, hst.finOwn (g := (fun n => bif Nat.beq n 2 then c1 else bif Nat.beq n 3 then c2 else 0)) rfl rh_13 (by decide) (by decide) rfl⟩
def m_whole_Cmp (N : Nat) (p0_a : (Bool × (List Int))) (p1_b : (Bool × (List Int))) : Option Int :=
  (m_whole_Sign N (p0_a.1, p0_a.2)).bind fun r_11 => (m_whole_Sign N (p1_b.1, p1_b.2)).bind fun r_13 => if (decide (r_11 < r_13)) = true then (some (-1)) else (if (decide (r_13 < r_11)) = true then (some 1) else ((m_nat_Cmp N p0_a.2 p1_b.2).bind fun r_16 => some (IntKind.i64.wrap (r_11 * r_16))))
theorem c_whole_Cmp (N : Nat) (col : Col) (w0 : World) (a0_0 : Option Addr) (cap0_0 : Nat) (p0_a : (Bool × (List Int))) (a1_0 : Option Addr) (cap1_0 : Nat) (p1_b : (Bool × (List Int))) (h0_0 : Sl (Rep.int .u32) col w0 a0_0 cap0_0 p0_a.2) (h1_0 : Sl (Rep.int .u32) col w0 a1_0 cap1_0 p1_b.2) (r : Int) (hm : m_whole_Cmp N p0_a p1_b = some r) :
    Calls Tryz.prog 93 #[(.agg #[(.bool p0_a.1), (.slice a0_0 p0_a.2.length cap0_0)]), (.agg #[(.bool p1_b.1), (.slice a1_0 p1_b.2.length cap1_0)])] w0 (fun e w' => e = .returned ((.int .i64 r)) ∧ Below w0.heap.size w0 w') := by
 refine calls_of1 4 (m := 26) (args := [(.agg #[(.bool p0_a.1), (.slice a0_0 p0_a.2.length cap0_0)]), (.agg #[(.bool p1_b.1), (.slice a1_0 p1_b.2.length cap1_0)])]) Tryz.func93 rfl rfl rfl rfl rfl ?_
 rw [m_whole_Cmp.eq_1] at hm
 have hst := St.start col w0
 refine wS (wR ?_)
 refine l_box (col := (col0 col)) (v := (.agg #[(.bool p0_a.1), (.slice a0_0 p0_a.2.length cap0_0)])) 1 rfl rfl ?_
 intro g_1 w_2 col_3 hg_4 hb_5
 replace hb_5 : Box 38 1 col_3 w_2 g_1 #[(.bool p0_a.1), (.slice a0_0 p0_a.2.length cap0_0)] := hb_5
 refine l_box (col := col_3) (v := (.agg #[(.bool p1_b.1), (.slice a1_0 p1_b.2.length cap1_0)])) 2 rfl rfl ?_
 intro g_6 w_7 col_8 hg_9 hb_10
 replace hb_10 : Box 38 2 col_8 w_7 g_6 #[(.bool p1_b.1), (.slice a1_0 p1_b.2.length cap1_0)] := hb_10
 refine lA (.int .i64 0) ?_
 refine lN (wS ?_)
 refine wquiet (col := col_8) (by kernel_rfl) (by kernel_rfl) ?_
 replace hb_5 := hb_5.gr hg_9
 refine qv (v := (.agg #[(.bool p0_a.1), (.slice a0_0 p0_a.2.length cap0_0)])) rfl (fun _ hC => r_ldN Tryz.isAgg38 Tryz.sizeOf38 rfl rfl (hb_5.atN.gr (Grow.of_below (col := col_8) hC.below))) ?_
 obtain ⟨r_11, hr_12, hm⟩ := bS hm
 replace h0_0 := ((h0_0.keep (Stay.start col w0)).gr hg_4).gr hg_9
 refine qc (v := (.int .i64 r_11)) rfl (fun _ hC => ⟨_, _, r_call1 Tryz.call76 rfl, (c_whole_Sign N col_8 _ a0_0 cap0_0 (p0_a.1, p0_a.2) (h0_0.gr (Grow.of_below (col := col_8) hC.below)) r_11 hr_12).mono fun _ _ h => ⟨h.1, hC.trans (.of_below h.2)⟩⟩) ?_
 refine qv (v := (.agg #[(.bool p1_b.1), (.slice a1_0 p1_b.2.length cap1_0)])) rfl (fun _ hC => r_ldN Tryz.isAgg38 Tryz.sizeOf38 rfl rfl (hb_10.atN.gr (Grow.of_below (col := col_8) hC.below))) ?_
 obtain ⟨r_13, hr_14, hm⟩ := bS hm
 replace h1_0 := ((h1_0.keep (Stay.start col w0)).gr hg_4).gr hg_9
 refine qc (v := (.int .i64 r_13)) rfl (fun _ hC => ⟨_, _, r_call1 Tryz.call76 rfl, (c_whole_Sign N col_8 _ a1_0 cap1_0 (p1_b.1, p1_b.2) (h1_0.gr (Grow.of_below (col := col_8) hC.below)) r_13 hr_14).mono fun _ _ h => ⟨h.1, hC.trans (.of_below h.2)⟩⟩) ?_
 refine qv (v := (.int .i64 r_11)) rfl (fun _ hC => r_assign rfl) ?_
 refine qv (v := (.int .i64 r_13)) rfl (fun _ hC => r_assign rfl) ?_
 refine qnil ?_
 intro w_15 hC
 replace hC : Grow col_8 w_7 col_8 w_15 := .of_below hC.below
 refine wS (wB (wS (wR ?_)))
 refine lM (.int .i64 r_11) ?_
 refine lM (.int .i64 r_13) ?_
 refine lV (.bool (decide (r_11 < r_13))) (r_lss r_11 r_13 rfl rfl) ?_
 refine lA (.bool (decide (r_11 < r_13))) ?_
 refine lN ?_
 replace hst := ((hst.grow hg_4).grow hg_9).grow hC
 replace h0_0 := h0_0.gr hC
 replace h1_0 := h1_0.gr hC
 replace hb_5 := hb_5.gr hC
 replace hb_10 := hb_10.gr hC
 refine wcond (decide (r_11 < r_13)) rfl (fun hb => ?_) (fun hb => ?_)
 ·rw [if_pos hb] at hm
  clear hb
  refine wS (wR ?_)
  refine lA (.int .i64 (-1)) ?_
  refine lN ?_
  refine wret ?_
  cases hm
  exact ⟨rfl, rfl, hst.below⟩
 rw [if_neg (by rw [hb]; decide)] at hm
 clear hb
 refine wS (wR ?_)
 refine lM (.int .i64 r_11) ?_
 refine lM (.int .i64 r_13) ?_
 refine lV (.bool (decide (r_13 < r_11))) (r_gtr r_11 r_13 rfl rfl) ?_
 refine lA (.bool (decide (r_13 < r_11))) ?_
 refine lN ?_
 refine wcond (decide (r_13 < r_11)) rfl (fun hb => ?_) (fun hb => ?_)
 ·rw [if_pos hb] at hm
  clear hb
  refine wS (wR ?_)
  refine lA (.int .i64 1) ?_
  refine lN ?_
  refine wret ?_
  cases hm
  exact ⟨rfl, rfl, hst.below⟩
 rw [if_neg (by rw [hb]; decide)] at hm
 clear hb
 refine wK (wS (wR ?_))
 refine lM (.int .i64 r_11) ?_
 refine lV (.pointer ((some (⟨g_1, 0, none⟩ : Addr)).map (·.add 1))) (rF (sz := 1) (off := 1) Tryz.underlying38 rfl Tryz.sizeOf36 (by decide) rfl rfl ⟨_, _, rfl⟩) ?_
 refine lV (.slice a0_0 p0_a.2.length cap0_0) (r_ld Tryz.isAgg36 rfl ((hb_5.atN).nth (q := 1) (v := (.slice a0_0 p0_a.2.length cap0_0)) rfl)) ?_
 refine lV (.pointer ((some (⟨g_6, 0, none⟩ : Addr)).map (·.add 1))) (rF (sz := 1) (off := 1) Tryz.underlying38 rfl Tryz.sizeOf36 (by decide) rfl rfl ⟨_, _, rfl⟩) ?_
 refine lV (.slice a1_0 p1_b.2.length cap1_0) (r_ld Tryz.isAgg36 rfl ((hb_10.atN).nth (q := 1) (v := (.slice a1_0 p1_b.2.length cap1_0)) rfl)) ?_
 obtain ⟨r_16, hr_17, hm⟩ := bS hm
 refine lc rfl rfl (r_call2 Tryz.call58 rfl rfl) (c_nat_Cmp N col_8 _ a0_0 cap0_0 p0_a.2 a1_0 cap1_0 p1_b.2 h0_0 h1_0 r_16 hr_17) ?_
 rintro _ w_18 ⟨rfl, hg_19⟩
 refine ⟨_, rfl, ?_⟩
 replace hg_19 : Grow col_8 w_15 col_8 w_18 := .of_below hg_19
 refine lV (.int .i64 (IntKind.i64.wrap (r_11 * r_16))) (r_mul r_11 r_16 rfl rfl) ?_
 refine lA (.int .i64 (IntKind.i64.wrap (r_11 * r_16))) ?_
 refine lN ?_
 refine wret ?_
 cases hm
 replace hst := hst.grow hg_19
 exact ⟨rfl, rfl, hst.below⟩
def m_frac_Cmp (N : Nat) (p0_a : ((Bool × (List Int)) × (List Int))) (p1_b : ((Bool × (List Int)) × (List Int))) : Option Int :=
  (m_frac_under N ((p1_b.1.1, p1_b.1.2), p1_b.2)).bind fun r_12 => (m_frac_over N (p0_a.1.1, p0_a.1.2) r_12).bind fun r_21 => (m_frac_under N ((p0_a.1.1, p0_a.1.2), p0_a.2)).bind fun r_31 => (m_frac_over N (p1_b.1.1, p1_b.1.2) r_31).bind fun r_40 => (m_whole_Cmp N (r_21.1, r_21.2) (r_40.1, r_40.2)).bind fun r_50 => some r_50
theorem c_frac_Cmp (N : Nat) (col : Col) (w0 : World) (a0_0 : Option Addr) (cap0_0 : Nat) (a0_2 : Option Addr) (cap0_2 : Nat) (p0_a : ((Bool × (List Int)) × (List Int))) (a1_0 : Option Addr) (cap1_0 : Nat) (a1_2 : Option Addr) (cap1_2 : Nat) (p1_b : ((Bool × (List Int)) × (List Int))) (h0_0 : Sl (Rep.int .u32) col w0 a0_0 cap0_0 p0_a.1.2) (h0_2 : Sl (Rep.int .u32) col w0 a0_2 cap0_2 p0_a.2) (h1_0 : Sl (Rep.int .u32) col w0 a1_0 cap1_0 p1_b.1.2) (h1_2 : Sl (Rep.int .u32) col w0 a1_2 cap1_2 p1_b.2) (r : Int) (hm : m_frac_Cmp N p0_a p1_b = some r) :
    Calls Tryz.prog 43 #[(.agg #[(.bool p0_a.1.1), (.slice a0_0 p0_a.1.2.length cap0_0), (.slice a0_2 p0_a.2.length cap0_2)]), (.agg #[(.bool p1_b.1.1), (.slice a1_0 p1_b.1.2.length cap1_0), (.slice a1_2 p1_b.2.length cap1_2)])] w0 (fun e w' => e = .returned ((.int .i64 r)) ∧ Below w0.heap.size w0 w') := by
 refine calls_of1 4 (m := 16) (args := [(.agg #[(.bool p0_a.1.1), (.slice a0_0 p0_a.1.2.length cap0_0), (.slice a0_2 p0_a.2.length cap0_2)]), (.agg #[(.bool p1_b.1.1), (.slice a1_0 p1_b.1.2.length cap1_0), (.slice a1_2 p1_b.2.length cap1_2)])]) Tryz.func43 rfl rfl rfl rfl rfl ?_
 rw [m_frac_Cmp.eq_1] at hm
 have hst := St.start col w0
 refine wS (wR ?_)
 refine l_box (col := (col0 col)) (v := (.agg #[(.bool p0_a.1.1), (.slice a0_0 p0_a.1.2.length cap0_0), (.slice a0_2 p0_a.2.length cap0_2)])) 1 rfl rfl ?_
 intro g_1 w_2 col_3 hg_4 hb_5
 replace hb_5 : Box 40 1 col_3 w_2 g_1 #[(.bool p0_a.1.1), (.slice a0_0 p0_a.1.2.length cap0_0), (.slice a0_2 p0_a.2.length cap0_2)] := hb_5
 refine l_box (col := col_3) (v := (.agg #[(.bool p1_b.1.1), (.slice a1_0 p1_b.1.2.length cap1_0), (.slice a1_2 p1_b.2.length cap1_2)])) 2 rfl rfl ?_
 intro g_6 w_7 col_8 hg_9 hb_10
 replace hb_10 : Box 40 2 col_8 w_7 g_6 #[(.bool p1_b.1.1), (.slice a1_0 p1_b.1.2.length cap1_0), (.slice a1_2 p1_b.2.length cap1_2)] := hb_10
 refine lA (.int .i64 0) ?_
 refine lN (wS ?_)
 refine wmix (col := col_8) [(0, 1), (1, 0), (2, 0), (5, 1), (6, 0), (7, 0), (3, 3), (4, 3), (8, 3), (9, 3), (10, 3), (11, 1)] (by kernel_rfl) (by kernel_rfl) ?_
 refine xu (v := (.pointer ((some (⟨g_1, 0, none⟩ : Addr)).map (·.add 0)))) rfl rfl (fun _ => rF (sz := 2) (off := 0) Tryz.underlying40 rfl Tryz.sizeOf38 (by decide) rfl rfl ⟨_, _, rfl⟩) ?_
 replace hb_5 := hb_5.gr hg_9
 refine xv (v := (.agg #[(.bool p0_a.1.1), (.slice a0_0 p0_a.1.2.length cap0_0)])) rfl rfl (fun _ hC => r_ldN Tryz.isAgg38 Tryz.sizeOf38 rfl rfl (((hb_5.atN).part 0 2 _ rfl).gr (Grow.of_below (col := col_8) hC.below))) ?_
 refine xv (v := (.agg #[(.bool p1_b.1.1), (.slice a1_0 p1_b.1.2.length cap1_0), (.slice a1_2 p1_b.2.length cap1_2)])) rfl rfl (fun _ hC => r_ldN Tryz.isAgg40 Tryz.sizeOf40 rfl rfl (hb_10.atN.gr (Grow.of_below (col := col_8) hC.below))) ?_
 refine xu (v := (.pointer ((some (⟨g_6, 0, none⟩ : Addr)).map (·.add 0)))) rfl rfl (fun _ => rF (sz := 2) (off := 0) Tryz.underlying40 rfl Tryz.sizeOf38 (by decide) rfl rfl ⟨_, _, rfl⟩) ?_
 refine xv (v := (.agg #[(.bool p1_b.1.1), (.slice a1_0 p1_b.1.2.length cap1_0)])) rfl rfl (fun _ hC => r_ldN Tryz.isAgg38 Tryz.sizeOf38 rfl rfl (((hb_10.atN).part 0 2 _ rfl).gr (Grow.of_below (col := col_8) hC.below))) ?_
 refine xv (v := (.agg #[(.bool p0_a.1.1), (.slice a0_0 p0_a.1.2.length cap0_0), (.slice a0_2 p0_a.2.length cap0_2)])) rfl rfl (fun _ hC => r_ldN Tryz.isAgg40 Tryz.sizeOf40 rfl rfl (hb_5.atN.gr (Grow.of_below (col := col_8) hC.below))) ?_
 refine xe rfl rfl ?_
 intro w_11 hC0
 have hC : Grow col_8 w_7 col_8 w_11 := .of_below hC0.below
 obtain ⟨r_12, hr_13, hm⟩ := bS hm
 replace h1_0 := (((h1_0.keep (Stay.start col w0)).gr hg_4).gr hg_9).gr hC
 replace h1_2 := (((h1_2.keep (Stay.start col w0)).gr hg_4).gr hg_9).gr hC
 refine lc rfl rfl (r_call1 Tryz.call56 rfl) (c_frac_under N 3 col_8 _ a1_0 cap1_0 a1_2 cap1_2 ((p1_b.1.1, p1_b.1.2), p1_b.2) h1_0 h1_2 r_12 hr_13) ?_
 rintro _ w_17 ⟨col_19, ra_14, rc_15, rfl, hg_18, rh_16⟩
 refine ⟨_, rfl, ?_⟩
 refine lN ⟨fun w' => Grow col_19 w_17 col_19 w', Grow.refl _ _, fun _ _ h => cls hC0 hg_18 h, ?_⟩
 refine xe rfl rfl ?_
 intro w_20 hC0
 replace h0_0 := ((((h0_0.keep (Stay.start col w0)).gr hg_4).gr hg_9).gr hC).gr hg_18
 replace h0_2 := ((((h0_2.keep (Stay.start col w0)).gr hg_4).gr hg_9).gr hC).gr hg_18
 replace hst := (((hst.grow hg_4).grow hg_9).grow hC).grow hg_18
 have hC : Grow col_19 w_17 col_19 w_20 := .of_below hC0.below
 obtain ⟨r_21, hr_22, hm⟩ := bS hm
 replace h0_0 := h0_0.gr hC
 replace rh_16 := rh_16.gr hC
 refine lc rfl rfl (r_call2 Tryz.call81 rfl rfl) (c_frac_over N 4 (frC 3 col_19) _ a0_0 cap0_0 (p0_a.1.1, p0_a.1.2) ra_14 rc_15 r_12 (h0_0.froz 3) (rh_16.toSlF (Froz.int .u32)) r_21 hr_22) ?_
 rintro _ w_26 ⟨col_28, ra_23, rc_24, rfl, hg_27, rh_25⟩
 refine ⟨_, rfl, ?_⟩
 replace rh_25 := rh_25.thaw (flat_int .u32) hg_27 ((Fz.refl (col := col_19)).froz 3) (by decide)
 replace hg_27 := hg_27.thawR (col := col_19)
 generalize colR w_20.heap.size col_19 col_28 = col_29 at *
 refine lN ⟨fun w' => Grow col_29 w_26 col_29 w', Grow.refl _ _, fun _ _ h => cls hC0 hg_27 h, ?_⟩
 refine xe rfl rfl ?_
 intro w_30 hC0
 replace h1_0 := ((h1_0.gr hg_18).gr hC).gr hg_27
 replace h0_2 := (h0_2.gr hC).gr hg_27
 replace hst := (hst.grow hC).grow hg_27
 have hC : Grow col_29 w_26 col_29 w_30 := .of_below hC0.below
 obtain ⟨r_31, hr_32, hm⟩ := bS hm
 replace h0_0 := (h0_0.gr hg_27).gr hC
 replace h0_2 := h0_2.gr hC
 refine lc rfl rfl (r_call1 Tryz.call56 rfl) (c_frac_under N 5 col_29 _ a0_0 cap0_0 a0_2 cap0_2 ((p0_a.1.1, p0_a.1.2), p0_a.2) h0_0 h0_2 r_31 hr_32) ?_
 rintro _ w_36 ⟨col_38, ra_33, rc_34, rfl, hg_37, rh_35⟩
 refine ⟨_, rfl, ?_⟩
 refine lN ⟨fun w' => Grow col_38 w_36 col_38 w', Grow.refl _ _, fun _ _ h => cls hC0 hg_37 h, ?_⟩
 refine xe rfl rfl ?_
 intro w_39 hC0
 replace h1_0 := (h1_0.gr hC).gr hg_37
 replace rh_25 := (rh_25.gr hC).gr hg_37
 replace hst := (hst.grow hC).grow hg_37
 have hC : Grow col_38 w_36 col_38 w_39 := .of_below hC0.below
 obtain ⟨r_40, hr_41, hm⟩ := bS hm
 replace h1_0 := h1_0.gr hC
 replace rh_35 := rh_35.gr hC
 refine lc rfl rfl (r_call2 Tryz.call81 rfl rfl) (c_frac_over N 6 (frC 5 col_38) _ a1_0 cap1_0 (p1_b.1.1, p1_b.1.2) ra_33 rc_34 r_31 (h1_0.froz 5) (rh_35.toSlF (Froz.int .u32)) r_40 hr_41) ?_
 rintro _ w_45 ⟨col_47, ra_42, rc_43, rfl, hg_46, rh_44⟩
 refine ⟨_, rfl, ?_⟩
 replace rh_44 := rh_44.thaw (flat_int .u32) hg_46 ((Fz.refl (col := col_38)).froz 5) (by decide)
 replace hg_46 := hg_46.thawR (col := col_38)
 generalize colR w_39.heap.size col_38 col_47 = col_48 at *
 refine lN ⟨fun w' => Grow col_48 w_45 col_48 w', Grow.refl _ _, fun _ _ h => cls hC0 hg_46 h, ?_⟩
 refine xe rfl rfl ?_
 intro w_49 hC0
 replace rh_25 := (rh_25.gr hC).gr hg_46
 replace hst := (hst.grow hC).grow hg_46
 have hC : Grow col_48 w_45 col_48 w_49 := .of_below hC0.below
 obtain ⟨r_50, hr_51, hm⟩ := bS hm
 replace rh_25 := rh_25.gr hC
 replace rh_44 := rh_44.gr hC
 refine lc rfl rfl (r_call2 Tryz.call93 rfl rfl) (c_whole_Cmp N (frC 6 (frC 4 col_48)) _ ra_23 rc_24 (r_21.1, r_21.2) ra_42 rc_43 (r_40.1, r_40.2) ((rh_25.toSlF (Froz.int .u32)).froz 6) ((rh_44.froz 4 (by decide)).toSlF (Froz.int .u32)) r_50 hr_51) ?_
 rintro _ w_52 ⟨rfl, hg_53⟩
 refine ⟨_, rfl, ?_⟩
 replace hg_53 : Grow col_48 w_49 col_48 w_52 := .of_below hg_53
 refine lN ⟨fun w' => Grow col_48 w_52 col_48 w', Grow.refl _ _, fun _ _ h => cls hC0 hg_53 h, ?_⟩
 refine xu (v := (.int .i64 r_50)) rfl rfl (fun _ => r_assign rfl) ?_
 refine xnil ?_
 replace hst := (hst.grow hC).grow hg_53
 intro w_54 hC
 replace hC : Grow col_48 w_52 col_48 w_54 := .of_below hC.below
 refine wret ?_
 cases hm
 replace hst := hst.grow hC
 exact ⟨rfl, rfl, hst.below⟩
def m_model_whole_L1_Xret (v_15 : Bool) : Option Bool :=
  some v_15
def m_model_whole_L1 (N : Nat) : List (List ((Bool × (List Int)) × (List Int))) → Bool → Option Bool
  | [], v_15 => some true
  | y_16 :: l_17, v_15 => (m_frac_Sum N y_16).bind fun r_40 => (m_model_one N).bind fun r_51 => (m_frac_Cmp N ((r_40.1.1, r_40.1.2), r_40.2) ((r_51.1.1, r_51.1.2), r_51.2)).bind fun r_62 => if (!decide (r_62 = 0)) = true then none else ((m_model_whole_L1 N l_17) v_15)
termination_by structural x => x
def m_model_whole (N : Nat) (p0_l : (List ((Bool × (List Int)) × (List Int)))) (p1_values : Int) : Option Bool :=
  (m_slices_Chunk_api_Rat_api_Rat N p0_l p1_values).bind fun r_6 => m_model_whole_L1 N r_6 false
theorem c_model_whole (N : Nat) (col : Col) (w0 : World) (a0 : Option Addr) (cap0 : Nat) (p0_l : (List ((Bool × (List Int)) × (List Int)))) (p1_values : Int) (h0 : Sl (Rep.pair (Rep.pair Rep.bool (Rep.slice (Rep.int .u32))) (Rep.slice (Rep.int .u32))) col w0 a0 cap0 p0_l) (r : Bool) (hm : m_model_whole N p0_l p1_values = some r) :
    Calls Tryz.prog 120 #[(.slice a0 p0_l.length cap0), (.int .i64 p1_values)] w0 (fun e w' => e = .returned ((.bool r)) ∧ Below w0.heap.size w0 w') := by
 refine calls_ofMR (m := 15) (args := [(.slice a0 p0_l.length cap0), (.int .i64 p1_values)]) Tryz.func120 rfl rfl rfl ?_
 rw [m_model_whole.eq_1] at hm
 have hst := St.start col w0
 replace h0 := h0.keep (Stay.start col w0)
 have hmk : Marks (col0 col) w0 [] := .nil
 refine wS (wR ?_)
 refine l_alloc (col := (col0 col)) (v := (.bool false)) 1 rfl Tryz.zeroValue4 ?_
 intro g_1 w_2 col_3 hg_4 hb_5
 replace hb_5 : Box 4 1 col_3 w_2 g_1 #[(.bool false)] := hb_5
 refine lN (wS (wS (wR ?_)))
 refine lM (.slice a0 p0_l.length cap0) ?_
 refine lM (.int .i64 p1_values) ?_
 obtain ⟨r_6, hr_7, hm⟩ := bS hm
 replace h0 := h0.gr hg_4
 refine lc rfl rfl (r_call2 Tryz.call150 rfl rfl) (c_slices_Chunk_api_Rat_api_Rat N col_3 _ a0 cap0 p0_l p1_values h0 r_6 hr_7) ?_
 rintro _ w_10 ⟨col_12, rv_8, rfl, hg_11, rh_9⟩
 refine ⟨_, rfl, ?_⟩
 refine lN (wB ?_)
 replace hmk := (hmk.gr hg_4).gr hg_11
 replace hst := (hst.grow hg_4).grow hg_11
 replace hb_5 := hb_5.gr hg_11
 refine wrange (psl := [9]) (arr := (fun (y : List ((Bool × (List Int)) × (List Int))) (col : Col) (w : World) (args : List Value) => ∃ (a0 : Option Addr) (cap0 : Nat), args = [.slice a0 y.length cap0] ∧ Sl (Rep.pair (Rep.pair Rep.bool (Rep.slice (Rep.int .u32))) (Rep.slice (Rep.int .u32))) col w a0 cap0 y)) (ys := r_6) (col := col_12) 498 rfl rh_9 rfl hmk rfl rfl (by rintro _ _ _ _ ⟨_, _, rfl, _⟩; rfl) (fun ys_ col_14 w_13 => ∃ (v_15 : Bool), m_model_whole_L1 N ys_ v_15 = some r ∧ St w0 (col0 col) col_14 w_13 ∧ Box 4 1 col_14 w_13 g_1 #[(.bool v_15)]) (fun c_ col_14 w_13 => (c_ = .ret ∧ ∃ (v_15 : Bool), m_model_whole_L1_Xret  v_15 = some r ∧ St w0 (col0 col) col_14 w_13 ∧ Box 4 1 col_14 w_13 g_1 #[(.bool v_15)])) ?_ ?_ ⟨false, hm, hst, hb_5⟩ ?_ ?_ ?_
 ·intro ys_ col_14 w_13 col2_ w2_ hJ hk
  obtain ⟨v_15, hm, hst, hb_5⟩ := hJ
  exact ⟨v_15, hm, hst.kpp hk rfl rfl, hb_5.kpp hk rfl⟩
 ·intro c_ col_14 w_13 col2_ w2_ hX hk
  obtain ⟨rfl, hX⟩ := hX
  obtain ⟨v_15, hm, hst, hb_5⟩ := hX
  exact ⟨rfl, ⟨v_15, hm, hst.kpp hk rfl rfl, hb_5.kpp hk rfl⟩⟩
 ·intro l_26 rc_27 ds_28 y_16 l_17 col_14 w_13 args hJ hrec hmk harr
  obtain ⟨v_15, hm, hst, hb_5⟩ := hJ
  rw [m_model_whole_L1.eq_2] at hm
  have hki := KeepP.refl pCo col_14 w_13
  obtain ⟨a_29, cap_30, rfl, h_31⟩ := harr
  refine wR ?_
  refine lA (.slice a_29 y_16.length cap_30) ?_
  refine lN ?_
  refine ⟨_, hrec, ?_⟩
  intro w_36 rc_37 hk_38 hs_39 hrec2
  clear hrec
  have hrec := hrec2
  clear hrec2
  refine wB (wS (wR ?_))
  refine lM (.slice a_29 y_16.length cap_30) ?_
  obtain ⟨r_40, hr_41, hm⟩ := bS hm
  replace h_31 := h_31.kp hk_38
  refine lc rfl rfl (r_call1 Tryz.call51 rfl) (c_frac_Sum N 2 3 col_14 _ a_29 cap_30 y_16 h_31 r_40 hr_41) ?_
  rintro _ w_48 ⟨col_50, ra_42, rc_43, ra_45, rc_46, rfl, hg_49, rh_44, rh_47⟩
  refine ⟨_, rfl, ?_⟩
  obtain ⟨r_51, hr_52, hm⟩ := bS hm
  refine lc rfl rfl (r_call0 Tryz.call141 ) (c_model_one N 4 5 col_50 _ r_51 hr_52) ?_
  rintro _ w_59 ⟨col_61, ra_53, rc_54, ra_56, rc_57, rfl, hg_60, rh_55, rh_58⟩
  refine ⟨_, rfl, ?_⟩
  obtain ⟨r_62, hr_63, hm⟩ := bS hm
  replace rh_44 := rh_44.gr hg_60
  replace rh_47 := rh_47.gr hg_60
  refine lc rfl rfl (r_call2 Tryz.call43 rfl rfl) (c_frac_Cmp N (frC 5 (frC 4 (frC 3 (frC 2 col_61)))) _ ra_42 rc_43 ra_45 rc_46 ((r_40.1.1, r_40.1.2), r_40.2) ra_53 rc_54 ra_56 rc_57 ((r_51.1.1, r_51.1.2), r_51.2) ((((rh_44.toSlF (Froz.int .u32)).froz 3).froz 4).froz 5) ((((rh_47.froz 2 (by decide)).toSlF (Froz.int .u32)).froz 4).froz 5) ((((rh_55.froz 2 (by decide)).froz 3 (by decide)).toSlF (Froz.int .u32)).froz 5) ((((rh_58.froz 2 (by decide)).froz 3 (by decide)).froz 4 (by decide)).toSlF (Froz.int .u32)) r_62 hr_63) ?_
  rintro _ w_64 ⟨rfl, hg_65⟩
  refine ⟨_, rfl, ?_⟩
  replace hg_65 : Grow col_61 w_59 col_61 w_64 := .of_below hg_65
  refine lV (.bool (!decide (r_62 = 0))) (r_neq r_62 0 rfl rfl) ?_
  refine lN ?_
  replace hb_5 := (((hb_5.kp hk_38).gr hg_49).gr hg_60).gr hg_65
  replace hmk := (((hmk.kp hk_38).gr hg_49).gr hg_60).gr hg_65
  replace hki := (((hki.kp hk_38 hs_39 rfl).gr hg_49).gr hg_60).gr hg_65
  replace hst := (((hst.kp hk_38 hs_39).grow hg_49).grow hg_60).grow hg_65
  replace hrec := ((hrec.gr hg_49).gr hg_60).gr hg_65
  refine wcond (!decide (r_62 = 0)) rfl (fun hb => ?_) (fun hb => ?_)
  ·rw [if_pos hb] at hm
   clear hb
   cases hm
  rw [if_neg (by rw [hb]; decide)] at hm
  clear hb
  refine wK ?_
  exact ⟨_, hki, ⟨v_15, hm, hst, hb_5⟩, hrec, hmk⟩
 ·clear hmk
  intro D_18 col_14 w_13 hJ hmk
  obtain ⟨v_15, hm, hst, hb_5⟩ := hJ
  rw [m_model_whole_L1.eq_1] at hm
  refine wS (wR ?_)
  refine l_bstore (v := (.bool true)) hb_5 Tryz.sizeOf4 rfl rfl (by intro u hu; simp only [Value.cells, List.mem_cons, List.not_mem_nil, or_false] at hu; subst hu; rfl) rfl rfl ?_
  intro w_19 hk_20 hs_21 hb_22
  clear hb_5
  replace hb_22 : Box 4 1 col_14 w_19 g_1 #[(.bool true)] := hb_22
  refine lN ?_
  refine wret ?_
  cases hm
  replace hmk := hmk.kp hk_20
  refine ⟨_, (D_18 :: []), rfl, hmk, ?_⟩
  intro w_23 hk_24 hs_25
  clear hmk
  replace hst := (hst.kp hk_20 hs_21).kp hk_24 hs_25
  replace hb_22 := hb_22.kp hk_24
  exact ⟨_, res_cell1 rfl rfl Tryz.isAgg4 rfl hb_22.at1, rfl, hst.below⟩
 clear hmk
 intro c_ D_32 col_14 w_13 hX hmk
 obtain ⟨rfl, hX⟩ := hX
 obtain ⟨v_15, hm, hst, hb_5⟩ := hX
 rw [m_model_whole_L1_Xret.eq_1] at hm
 refine wret ?_
 cases hm
 refine ⟨_, (D_32 :: []), rfl, hmk, ?_⟩
 intro w_33 hk_34 hs_35
 clear hmk
 replace hb_5 := hb_5.kp hk_34
 replace hst := hst.kp hk_34 hs_35
 exact ⟨_, res_cell1 rfl rfl Tryz.isAgg4 rfl hb_5.at1, rfl, hst.below⟩
def m_frac_Sign (N : Nat) (p0_a : ((Bool × (List Int)) × (List Int))) : Option Int :=
  (m_whole_Sign N (p0_a.1.1, p0_a.1.2)).bind fun r_6 => some r_6
theorem c_frac_Sign (N : Nat) (col : Col) (w0 : World) (a0_0 : Option Addr) (cap0_0 : Nat) (a0_2 : Option Addr) (cap0_2 : Nat) (p0_a : ((Bool × (List Int)) × (List Int))) (h0_0 : Sl (Rep.int .u32) col w0 a0_0 cap0_0 p0_a.1.2) (h0_2 : Sl (Rep.int .u32) col w0 a0_2 cap0_2 p0_a.2) (r : Int) (hm : m_frac_Sign N p0_a = some r) :
    Calls Tryz.prog 24 #[(.agg #[(.bool p0_a.1.1), (.slice a0_0 p0_a.1.2.length cap0_0), (.slice a0_2 p0_a.2.length cap0_2)])] w0 (fun e w' => e = .returned ((.int .i64 r)) ∧ Below w0.heap.size w0 w') := by
 refine calls_of1 2 (m := 6) (args := [(.agg #[(.bool p0_a.1.1), (.slice a0_0 p0_a.1.2.length cap0_0), (.slice a0_2 p0_a.2.length cap0_2)])]) Tryz.func24 rfl rfl rfl rfl rfl ?_
 rw [m_frac_Sign.eq_1] at hm
 have hst := St.start col w0
 refine wS (wR ?_)
 refine l_box (col := (col0 col)) (v := (.agg #[(.bool p0_a.1.1), (.slice a0_0 p0_a.1.2.length cap0_0), (.slice a0_2 p0_a.2.length cap0_2)])) 1 rfl rfl ?_
 intro g_1 w_2 col_3 hg_4 hb_5
 replace hb_5 : Box 40 1 col_3 w_2 g_1 #[(.bool p0_a.1.1), (.slice a0_0 p0_a.1.2.length cap0_0), (.slice a0_2 p0_a.2.length cap0_2)] := hb_5
 refine lA (.int .i64 0) ?_
 refine lN (wS (wR ?_))
 refine lV (.pointer ((some (⟨g_1, 0, none⟩ : Addr)).map (·.add 0))) (rF (sz := 2) (off := 0) Tryz.underlying40 rfl Tryz.sizeOf38 (by decide) rfl rfl ⟨_, _, rfl⟩) ?_
 refine lV (.agg #[(.bool p0_a.1.1), (.slice a0_0 p0_a.1.2.length cap0_0)]) (r_ldN Tryz.isAgg38 Tryz.sizeOf38 rfl rfl ((hb_5.atN).part 0 2 _ rfl)) ?_
 obtain ⟨r_6, hr_7, hm⟩ := bS hm
 replace h0_0 := (h0_0.keep (Stay.start col w0)).gr hg_4
 refine lc rfl rfl (r_call1 Tryz.call76 rfl) (c_whole_Sign N col_3 _ a0_0 cap0_0 (p0_a.1.1, p0_a.1.2) h0_0 r_6 hr_7) ?_
 rintro _ w_8 ⟨rfl, hg_9⟩
 refine ⟨_, rfl, ?_⟩
 replace hg_9 : Grow col_3 w_2 col_3 w_8 := .of_below hg_9
 refine lA (.int .i64 r_6) ?_
 refine lN ?_
 refine wret ?_
 cases hm
 replace hst := (hst.grow hg_4).grow hg_9
 exact ⟨rfl, rfl, hst.below⟩
def m_model_outside_J1 (v_58 : Bool) : Option Bool :=
  some v_58
def m_model_outside (N : Nat) (p0_x : ((Bool × (List Int)) × (List Int))) : Option Bool :=
  (m_frac_Sign N ((p0_x.1.1, p0_x.1.2), p0_x.2)).bind fun r_60 => if (decide (r_60 < 0)) = true then (m_model_outside_J1 true) else ((m_model_one N).bind fun r_67 => (m_frac_Cmp N ((p0_x.1.1, p0_x.1.2), p0_x.2) ((r_67.1.1, r_67.1.2), r_67.2)).bind fun r_79 => m_model_outside_J1 (decide (0 < r_79)))
theorem c_model_outside (N : Nat) (col : Col) (w0 : World) (a0_0 : Option Addr) (cap0_0 : Nat) (a0_2 : Option Addr) (cap0_2 : Nat) (p0_x : ((Bool × (List Int)) × (List Int))) (h0_0 : Sl (Rep.int .u32) col w0 a0_0 cap0_0 p0_x.1.2) (h0_2 : Sl (Rep.int .u32) col w0 a0_2 cap0_2 p0_x.2) (r : Bool) (hm : m_model_outside N p0_x = some r) :
    Calls Tryz.prog 119 #[(.agg #[(.bool p0_x.1.1), (.slice a0_0 p0_x.1.2.length cap0_0), (.slice a0_2 p0_x.2.length cap0_2)])] w0 (fun e w' => e = .returned ((.bool r)) ∧ Below w0.heap.size w0 w') := by
 refine calls_of1 2 (m := 12) (args := [(.agg #[(.bool p0_x.1.1), (.slice a0_0 p0_x.1.2.length cap0_0), (.slice a0_2 p0_x.2.length cap0_2)])]) Tryz.func119 rfl rfl rfl rfl rfl ?_
 rw [m_model_outside.eq_1] at hm
 have hst := St.start col w0
 refine wS (wR ?_)
 refine l_box (col := (col0 col)) (v := (.agg #[(.bool p0_x.1.1), (.slice a0_0 p0_x.1.2.length cap0_0), (.slice a0_2 p0_x.2.length cap0_2)])) 1 rfl rfl ?_
 intro g_1 w_2 col_3 hg_4 hb_5
 replace hb_5 : Box 40 1 col_3 w_2 g_1 #[(.bool p0_x.1.1), (.slice a0_0 p0_x.1.2.length cap0_0), (.slice a0_2 p0_x.2.length cap0_2)] := hb_5
 refine lA (.bool false) ?_
 refine lN (wS ?_)
 replace h0_0 := (h0_0.keep (Stay.start col w0)).gr hg_4
 replace h0_2 := (h0_2.keep (Stay.start col w0)).gr hg_4
 replace hst := hst.grow hg_4
 refine Wp.cut (fun f w_56 => ∃ (col_57 : Col) (v_58 : Bool), m_model_outside_J1 v_58 = some r ∧ St w0 (col0 col) col_57 w_56 ∧ f 2 = (.bool v_58) ∧ f 1000000 = (enc [])) ?_ ?_
 ·intro f w_56 hJ
  obtain ⟨col_57, v_58, hm, hst, hs2, hs1000000⟩ := hJ
  rw [m_model_outside_J1.eq_1] at hm
  refine .lD 2 hs2 ?_
  refine .lD 1000000 hs1000000 ?_
  clear hs2 hs1000000
  refine wret ?_
  cases hm
  exact ⟨rfl, rfl, hst.below⟩
 refine wmix (col := col_3) [(0, 0), (1, 3), (2, 1), (3, 1), (4, 0), (5, 3), (6, 3), (7, 1), (8, 1), (9, 1)] (by kernel_rfl) (by kernel_rfl) ?_
 refine xv (v := (.agg #[(.bool p0_x.1.1), (.slice a0_0 p0_x.1.2.length cap0_0), (.slice a0_2 p0_x.2.length cap0_2)])) rfl rfl (fun _ hC => r_ldN Tryz.isAgg40 Tryz.sizeOf40 rfl rfl (hb_5.atN.gr (Grow.of_below (col := col_3) hC.below))) ?_
 refine xe rfl rfl ?_
 intro w_59 hC0
 have hC : Grow col_3 w_2 col_3 w_59 := .of_below hC0.below
 obtain ⟨r_60, hr_61, hm⟩ := bS hm
 replace h0_0 := h0_0.gr hC
 replace h0_2 := h0_2.gr hC
 refine lc rfl rfl (r_call1 Tryz.call24 rfl) (c_frac_Sign N col_3 _ a0_0 cap0_0 a0_2 cap0_2 ((p0_x.1.1, p0_x.1.2), p0_x.2) h0_0 h0_2 r_60 hr_61) ?_
 rintro _ w_62 ⟨rfl, hg_63⟩
 refine ⟨_, rfl, ?_⟩
 replace hg_63 : Grow col_3 w_59 col_3 w_62 := .of_below hg_63
 refine lN ⟨fun w' => Grow col_3 w_62 col_3 w', Grow.refl _ _, fun _ _ h => cls hC0 hg_63 h, ?_⟩
 refine xu (v := (.bool (decide (r_60 < 0)))) rfl rfl (fun _ => r_lss r_60 0 rfl rfl) ?_
 refine xu (v := (.bool (decide (r_60 < 0)))) rfl rfl (fun _ => r_move rfl) ?_
 replace hb_5 := (hb_5.gr hC).gr hg_63
 replace hst := (hst.grow hC).grow hg_63
 replace h0_0 := h0_0.gr hg_63
 replace h0_2 := h0_2.gr hg_63
 by_cases hg_64 : (decide (r_60 < 0)) = true
 ·rw [if_pos hg_64] at hm
  refine xpass (b := decide (r_60 < 0)) 6 rfl rfl rfl rfl rfl (by rw [hg_64]; rfl) ?_
  refine xpass (b := decide (r_60 < 0)) 6 rfl rfl rfl rfl rfl (by rw [hg_64]; rfl) ?_
  refine xpass (b := decide (r_60 < 0)) 6 rfl rfl rfl rfl rfl (by rw [hg_64]; rfl) ?_
  refine xpass (b := decide (r_60 < 0)) 6 rfl rfl rfl rfl rfl (by rw [hg_64]; rfl) ?_
  refine xu (v := (.bool true)) rfl rfl (fun _ => r_pickT (congrArg Value.bool hg_64) rfl) ?_
  refine xu (v := (.bool true)) rfl rfl (fun _ => r_assign rfl) ?_
  refine xnil ?_
  intro w_65 hC
  replace hC : Grow col_3 w_62 col_3 w_65 := .of_below hC.below
  replace hst := hst.grow hC
  exact ⟨col_3, true, hm, hst, rfl, rfl⟩
 rw [if_neg hg_64] at hm
 replace hg_64 := Bool.eq_false_iff.2 hg_64
 refine xv_g (v := (.agg #[(.bool p0_x.1.1), (.slice a0_0 p0_x.1.2.length cap0_0), (.slice a0_2 p0_x.2.length cap0_2)])) (b := decide (r_60 < 0)) 6 rfl rfl rfl rfl rfl (by rw [hg_64]; rfl) (fun _ hC => r_ldN Tryz.isAgg40 Tryz.sizeOf40 rfl rfl (hb_5.atN.gr (Grow.of_below (col := col_3) hC.below))) ?_
 refine xe rfl rfl ?_
 intro w_66 hC0
 have hC : Grow col_3 w_62 col_3 w_66 := .of_below hC0.below
 refine lg (b := decide (r_60 < 0)) 6 rfl rfl rfl (by rw [hg_64]; rfl) ?_
 obtain ⟨r_67, hr_68, hm⟩ := bS hm
 refine lc rfl rfl (r_call0 Tryz.call141 ) (c_model_one N 6 7 col_3 _ r_67 hr_68) ?_
 rintro _ w_75 ⟨col_77, ra_69, rc_70, ra_72, rc_73, rfl, hg_76, rh_71, rh_74⟩
 refine ⟨_, rfl, ?_⟩
 refine lN ⟨fun w' => Grow col_77 w_75 col_77 w', Grow.refl _ _, fun _ _ h => cls hC0 hg_76 h, ?_⟩
 refine xe rfl rfl ?_
 intro w_78 hC0
 replace h0_0 := (h0_0.gr hC).gr hg_76
 replace h0_2 := (h0_2.gr hC).gr hg_76
 replace hst := (hst.grow hC).grow hg_76
 have hC : Grow col_77 w_75 col_77 w_78 := .of_below hC0.below
 refine lg (b := decide (r_60 < 0)) 6 rfl rfl rfl (by rw [hg_64]; rfl) ?_
 obtain ⟨r_79, hr_80, hm⟩ := bS hm
 replace h0_0 := h0_0.gr hC
 replace h0_2 := h0_2.gr hC
 replace rh_71 := rh_71.gr hC
 replace rh_74 := rh_74.gr hC
 refine lc rfl rfl (r_call2 Tryz.call43 rfl rfl) (c_frac_Cmp N (frC 7 (frC 6 col_77)) _ a0_0 cap0_0 a0_2 cap0_2 ((p0_x.1.1, p0_x.1.2), p0_x.2) ra_69 rc_70 ra_72 rc_73 ((r_67.1.1, r_67.1.2), r_67.2) ((h0_0.froz 6).froz 7) ((h0_2.froz 6).froz 7) ((rh_71.toSlF (Froz.int .u32)).froz 7) ((rh_74.froz 6 (by decide)).toSlF (Froz.int .u32)) r_79 hr_80) ?_
 rintro _ w_81 ⟨rfl, hg_82⟩
 refine ⟨_, rfl, ?_⟩
 replace hg_82 : Grow col_77 w_78 col_77 w_81 := .of_below hg_82
 refine lN ⟨fun w' => Grow col_77 w_81 col_77 w', Grow.refl _ _, fun _ _ h => cls hC0 hg_82 h, ?_⟩
 refine xu_g (v := (.bool (decide (0 < r_79)))) (b := decide (r_60 < 0)) 6 rfl rfl rfl rfl rfl (by rw [hg_64]; rfl) (fun _ => r_gtr r_79 0 rfl rfl) ?_
 refine xu (v := (.bool (decide (0 < r_79)))) rfl rfl (fun _ => r_pickF (congrArg Value.bool hg_64) rfl) ?_
 refine xu (v := (.bool (decide (0 < r_79)))) rfl rfl (fun _ => r_assign rfl) ?_
 refine xnil ?_
 replace hst := (hst.grow hC).grow hg_82
 intro w_83 hC
 replace hC : Grow col_77 w_81 col_77 w_83 := .of_below hC.below
 replace hst := hst.grow hC
 exact ⟨col_77, (decide (0 < r_79)), hm, hst, rfl, rfl⟩
def m_slices_IndexFunc_api_Rat_api_Rat_v1f119_L1 (N : Nat) : List ((Bool × (List Int)) × (List Int)) → Nat → Option Int
  | [], k_1 => some (-1)
  | x_5 :: l_6, k_1 => (m_model_outside N ((x_5.1.1, x_5.1.2), x_5.2)).bind fun r_19 => if r_19 = true then none else ((m_slices_IndexFunc_api_Rat_api_Rat_v1f119_L1 N l_6) (k_1 + 1))
termination_by structural x => x
def m_slices_IndexFunc_api_Rat_api_Rat_v1f119 (N : Nat) (p0_s : (List ((Bool × (List Int)) × (List Int)))) : Option Int :=
  m_slices_IndexFunc_api_Rat_api_Rat_v1f119_L1 N p0_s 0
theorem c_slices_IndexFunc_api_Rat_api_Rat_v1f119 (N : Nat) (col : Col) (w0 : World) (a0 : Option Addr) (cap0 : Nat) (p0_s : (List ((Bool × (List Int)) × (List Int)))) (h0 : Sl (Rep.pair (Rep.pair Rep.bool (Rep.slice (Rep.int .u32))) (Rep.slice (Rep.int .u32))) col w0 a0 cap0 p0_s) (r : Int) (hm : m_slices_IndexFunc_api_Rat_api_Rat_v1f119 N p0_s = some r) :
    Calls Tryz.prog 149 #[(.slice a0 p0_s.length cap0), (.func (.func 119) #[] #[])] w0 (fun e w' => e = .returned ((.int .i64 r)) ∧ Below w0.heap.size w0 w') := by
 refine calls_of1 4 (m := 19) (args := [(.slice a0 p0_s.length cap0), (.func (.func 119) #[] #[])]) Tryz.func149 rfl rfl rfl rfl rfl ?_
 rw [m_slices_IndexFunc_api_Rat_api_Rat_v1f119.eq_1] at hm
 have hst := St.start col w0
 refine wS (wR ?_)
 refine lA (.int .i64 0) ?_
 refine lN (wS (wS (wR ?_)))
 refine lM (.slice a0 p0_s.length cap0) ?_
 refine lV (.int .i64 (p0_s.length : Int)) (r_len Tryz.underlying51 rfl) ?_
 refine lM (.int .i64 0) ?_
 refine lN (wB ?_)
 replace h0 := h0.keep (Stay.start col w0)
 refine wloop (fun n f w_3 => ∃ (col_4 : Col) (k_1 : Nat) (l_2 : List ((Bool × (List Int)) × (List Int))), n = l_2.length ∧ p0_s.drop k_1 = l_2 ∧ m_slices_IndexFunc_api_Rat_api_Rat_v1f119_L1 N l_2 k_1 = some r ∧ St w0 (col0 col) col_4 w_3 ∧ Sl (Rep.pair (Rep.pair Rep.bool (Rep.slice (Rep.int .u32))) (Rep.slice (Rep.int .u32))) col_4 w_3 a0 cap0 p0_s ∧ f 8 = (.int .i64 (k_1 : Int)) ∧ f 0 = (.slice a0 p0_s.length cap0) ∧ f 1 = (.func (.func 119) #[] #[]) ∧ f 7 = (.int .i64 (p0_s.length : Int)) ∧ f 1000000 = (enc [])) p0_s.length ⟨(col0 col), 0, p0_s, rfl, rfl, hm, hst, h0, rfl, rfl, rfl, rfl, rfl⟩ ?_
 clear hm; intro n f w_3 hI
 obtain ⟨col_4, k_1, l_2, hn, hl, hm, hst, h0, hs8, hs0, hs1, hs7, hs1000000⟩ := hI
 subst hn
 refine .lD 8 hs8 ?_
 refine .lD 0 hs0 ?_
 refine .lD 1 hs1 ?_
 refine .lD 7 hs7 ?_
 refine .lD 1000000 hs1000000 ?_
 clear hs8 hs0 hs1 hs7 hs1000000
 cases l_2 with
 | nil =>
  have hk : ¬ ((k_1 : Int) < (p0_s.length : Int)) := by have := List.drop_eq_nil_iff.1 hl; omega
  have hkb := decide_eq_false hk
  rw [m_slices_IndexFunc_api_Rat_api_Rat_v1f119_L1.eq_1] at hm
  refine wS (wR ?_)
  refine lV (.bool (decide ((k_1 : Int) < (p0_s.length : Int)))) (r_lss (k_1 : Int) (p0_s.length : Int) rfl rfl) ?_
  refine lN (wS ?_)
  refine wcondF (congrArg Value.bool hkb) ?_
  refine wexit (inB_hit ?_)
  refine wS (wR ?_)
  refine lA (.int .i64 (-1)) ?_
  refine lN ?_
  refine wret ?_
  cases hm
  exact ⟨rfl, rfl, hst.below⟩
 | cons x_5 l_6 =>
  obtain ⟨hat, hl2_L1, hlt_L1⟩ := drop_get hl
  have hk : (k_1 : Int) < (p0_s.length : Int) := by omega
  have hkb := decide_eq_true hk
  rw [m_slices_IndexFunc_api_Rat_api_Rat_v1f119_L1.eq_2] at hm
  refine wS (wR ?_)
  refine lV (.bool (decide ((k_1 : Int) < (p0_s.length : Int)))) (r_lss (k_1 : Int) (p0_s.length : Int) rfl rfl) ?_
  refine lN (wS ?_)
  refine wcondT (congrArg Value.bool hkb) ?_
  refine wK (wS (wB (wS (wR ?_))))
  refine lM (.int .i64 (k_1 : Int)) ?_
  refine lA (.int .i64 (k_1 : Int)) ?_
  refine lN (wS (wR ?_))
  refine lM (.func (.func 119) #[] #[]) ?_
  refine lM (.slice a0 p0_s.length cap0) ?_
  refine lM (.int .i64 (k_1 : Int)) ?_
  refine lV (sptr a0 (Int.toNat (k_1 : Int) * 3)) (r_idx Tryz.underlying51 Tryz.sizeOf40 rfl rfl (at?_some hat).1 (at?_some hat).2.1 (h0.addr hat)) ?_
  obtain ⟨_, hr_7, hA_8⟩ := h0.atN hat
  obtain ⟨_, _, rfl, hp_9, hp_10⟩ := rd_pair hr_7
  obtain ⟨_, _, rfl, hp_11, hp_12⟩ := rd_pair hp_9
  obtain ⟨rfl, _⟩ := hp_11
  obtain ⟨⟨a_13, cap_14, rfl, h_15⟩, _⟩ := hp_12
  obtain ⟨⟨a_16, cap_17, rfl, h_18⟩, _⟩ := hp_10
  refine lV (.agg #[(.bool x_5.1.1), (.slice a_13 x_5.1.2.length cap_14), (.slice a_16 x_5.2.length cap_17)]) (r_ldN Tryz.isAgg40 Tryz.sizeOf40 rfl rfl hA_8) ?_
  obtain ⟨r_19, hr_20, hm⟩ := bS hm
  refine lc rfl rfl (r_callv1 Tryz.call119 rfl rfl) (c_model_outside N col_4 _ a_13 cap_14 a_16 cap_17 ((x_5.1.1, x_5.1.2), x_5.2) h_15 h_18 r_19 hr_20) ?_
  rintro _ w_21 ⟨rfl, hg_22⟩
  refine ⟨_, rfl, ?_⟩
  replace hg_22 : Grow col_4 w_3 col_4 w_21 := .of_below hg_22
  refine lN ?_
  replace h0 := h0.gr hg_22
  replace hst := hst.grow hg_22
  refine wcond (r_19) rfl (fun hb => ?_) (fun hb => ?_)
  ·rw [if_pos hb] at hm
   clear hb
   cases hm
  rw [if_neg (by rw [hb]; decide)] at hm
  clear hb
  refine wK (wR ?_)
  refine lV (.int .i64 (IntKind.i64.wrap ((k_1 : Int) + 1))) (r_add (k_1 : Int) 1 rfl rfl) ?_
  refine lM (.int .i64 (IntKind.i64.wrap ((k_1 : Int) + 1))) ?_
  refine lN ?_
  exact ⟨l_6.length, by simp, ⟨col_4, (k_1 + 1), l_6, rfl, hl2_L1, hm, hst, h0, (congrArg (Value.int .i64) (wrap_succ (Nat.lt_of_lt_of_le hlt_L1 h0.1.1))), rfl, rfl, rfl, rfl⟩⟩
def m_slices_ContainsFunc_api_Rat_api_Rat_v1f119 (N : Nat) (p0_s : (List ((Bool × (List Int)) × (List Int)))) : Option Bool :=
  (m_slices_IndexFunc_api_Rat_api_Rat_v1f119 N p0_s).bind fun r_1 => some (decide (0 ≤ r_1))
theorem c_slices_ContainsFunc_api_Rat_api_Rat_v1f119 (N : Nat) (col : Col) (w0 : World) (a0 : Option Addr) (cap0 : Nat) (p0_s : (List ((Bool × (List Int)) × (List Int)))) (h0 : Sl (Rep.pair (Rep.pair Rep.bool (Rep.slice (Rep.int .u32))) (Rep.slice (Rep.int .u32))) col w0 a0 cap0 p0_s) (r : Bool) (hm : m_slices_ContainsFunc_api_Rat_api_Rat_v1f119 N p0_s = some r) :
    Calls Tryz.prog 117 #[(.slice a0 p0_s.length cap0), (.func (.func 119) #[] #[])] w0 (fun e w' => e = .returned ((.bool r)) ∧ Below w0.heap.size w0 w') := by
 refine calls_of1 4 (m := 9) (args := [(.slice a0 p0_s.length cap0), (.func (.func 119) #[] #[])]) Tryz.func117 rfl rfl rfl rfl rfl ?_
 rw [m_slices_ContainsFunc_api_Rat_api_Rat_v1f119.eq_1] at hm
 have hst := St.start col w0
 refine wS (wR ?_)
 refine lA (.bool false) ?_
 refine lN (wS (wR ?_))
 refine lM (.slice a0 p0_s.length cap0) ?_
 refine lM (.func (.func 119) #[] #[]) ?_
 obtain ⟨r_1, hr_2, hm⟩ := bS hm
 replace h0 := h0.keep (Stay.start col w0)
 refine lc rfl rfl (r_call2 Tryz.call149 rfl rfl) (c_slices_IndexFunc_api_Rat_api_Rat_v1f119 N (col0 col) _ a0 cap0 p0_s h0 r_1 hr_2) ?_
 rintro _ w_3 ⟨rfl, hg_4⟩
 refine ⟨_, rfl, ?_⟩
 replace hg_4 : Grow (col0 col) w0 (col0 col) w_3 := .of_below hg_4
 refine lV (.bool (decide (0 ≤ r_1))) (r_geq r_1 0 rfl rfl) ?_
 refine lA (.bool (decide (0 ≤ r_1))) ?_
 refine lN ?_
 refine wret ?_
 cases hm
 replace hst := hst.grow hg_4
 exact ⟨rfl, rfl, hst.below⟩
def m_model_rows_L1 (p0_n : (ByteArray × (List ByteArray) × (List (List ByteArray)) × (List (List Int)) × (List (List ((Bool × (List Int)) × (List Int)))))) : List Int → Int → Option Int
  | [], k_17 => some k_17
  | x_18 :: l_19, k_17 => (at? p0_n.2.2.1 x_18).bind fun e_20 => (m_model_rows_L1 p0_n l_19) (if 1099511627776 < (IntKind.i64.wrap (k_17 * (e_20.length : Int))) then 1099511627776 else (IntKind.i64.wrap (k_17 * (e_20.length : Int))))
termination_by structural x => x
def m_model_rows (p0_n : (ByteArray × (List ByteArray) × (List (List ByteArray)) × (List (List Int)) × (List (List ((Bool × (List Int)) × (List Int)))))) (p1_v : Int) : Option Int :=
  (at? p0_n.2.2.2.1 p1_v).bind fun e_6 => m_model_rows_L1 p0_n e_6 1
theorem c_model_rows (col : Col) (w0 : World) (a0_0 : Option Addr) (cap0_0 : Nat) (a0_2 : Option Addr) (cap0_2 : Nat) (a0_4 : Option Addr) (cap0_4 : Nat) (a0_6 : Option Addr) (cap0_6 : Nat) (p0_n : (ByteArray × (List ByteArray) × (List (List ByteArray)) × (List (List Int)) × (List (List ((Bool × (List Int)) × (List Int)))))) (p1_v : Int) (h0_0 : Sl Rep.str col w0 a0_0 cap0_0 p0_n.2.1) (h0_2 : Sl (Rep.slice Rep.str) col w0 a0_2 cap0_2 p0_n.2.2.1) (h0_4 : Sl (Rep.slice (Rep.int .i64)) col w0 a0_4 cap0_4 p0_n.2.2.2.1) (h0_6 : Sl (Rep.slice (Rep.pair (Rep.pair Rep.bool (Rep.slice (Rep.int .u32))) (Rep.slice (Rep.int .u32)))) col w0 a0_6 cap0_6 p0_n.2.2.2.2) (r : Int) (hm : m_model_rows p0_n p1_v = some r) :
    Calls Tryz.prog 116 #[(.agg #[(.string p0_n.1), (.slice a0_0 p0_n.2.1.length cap0_0), (.slice a0_2 p0_n.2.2.1.length cap0_2), (.slice a0_4 p0_n.2.2.2.1.length cap0_4), (.slice a0_6 p0_n.2.2.2.2.length cap0_6)]), (.int .i64 p1_v)] w0 (fun e w' => e = .returned ((.int .i64 r)) ∧ Below w0.heap.size w0 w') := by
 refine calls_of1 4 (m := 29) (args := [(.agg #[(.string p0_n.1), (.slice a0_0 p0_n.2.1.length cap0_0), (.slice a0_2 p0_n.2.2.1.length cap0_2), (.slice a0_4 p0_n.2.2.2.1.length cap0_4), (.slice a0_6 p0_n.2.2.2.2.length cap0_6)]), (.int .i64 p1_v)]) Tryz.func116 rfl rfl rfl rfl rfl ?_
 rw [m_model_rows.eq_1] at hm
 have hst := St.start col w0
 refine wS (wR ?_)
 refine l_box (col := (col0 col)) (v := (.agg #[(.string p0_n.1), (.slice a0_0 p0_n.2.1.length cap0_0), (.slice a0_2 p0_n.2.2.1.length cap0_2), (.slice a0_4 p0_n.2.2.2.1.length cap0_4), (.slice a0_6 p0_n.2.2.2.2.length cap0_6)])) 1 rfl rfl ?_
 intro g_1 w_2 col_3 hg_4 hb_5
 replace hb_5 : Box 28 1 col_3 w_2 g_1 #[(.string p0_n.1), (.slice a0_0 p0_n.2.1.length cap0_0), (.slice a0_2 p0_n.2.2.1.length cap0_2), (.slice a0_4 p0_n.2.2.2.1.length cap0_4), (.slice a0_6 p0_n.2.2.2.2.length cap0_6)] := hb_5
 refine lA (.int .i64 0) ?_
 refine lN (wS (wR ?_))
 refine lA (.int .i64 1) ?_
 refine lN (wS (wS (wR ?_)))
 refine lV (.pointer ((some (⟨g_1, 0, none⟩ : Addr)).map (·.add 3))) (rF (sz := 1) (off := 3) Tryz.underlying28 rfl Tryz.sizeOf25 (by decide) rfl rfl ⟨_, _, rfl⟩) ?_
 refine lV (.slice a0_4 p0_n.2.2.2.1.length cap0_4) (r_ld Tryz.isAgg25 rfl ((hb_5.atN).nth (q := 3) (v := (.slice a0_4 p0_n.2.2.2.1.length cap0_4)) rfl)) ?_
 refine lM (.int .i64 p1_v) ?_
 obtain ⟨e_6, hj_7, hm⟩ := bS hm
 replace h0_4 := (h0_4.keep (Stay.start col w0)).gr hg_4
 refine lV (sptr a0_4 (Int.toNat p1_v * 1)) (r_idx Tryz.underlying25 Tryz.sizeOf33 rfl rfl (at?_some hj_7).1 (at?_some hj_7).2.1 (h0_4.addr hj_7)) ?_
 obtain ⟨_, hr_8, hA_9⟩ := h0_4.atN hj_7
 obtain ⟨⟨a_10, cap_11, rfl, h_12⟩, _⟩ := hr_8
 refine lV (.slice a_10 e_6.length cap_11) (r_ld Tryz.isAgg33 rfl hA_9.one) ?_
 refine lV (.int .i64 (e_6.length : Int)) (r_len Tryz.underlying33 rfl) ?_
 refine lM (.int .i64 0) ?_
 refine lN (wB ?_)
 replace h0_0 := (h0_0.keep (Stay.start col w0)).gr hg_4
 replace h0_2 := (h0_2.keep (Stay.start col w0)).gr hg_4
 replace h0_6 := (h0_6.keep (Stay.start col w0)).gr hg_4
 replace hst := hst.grow hg_4
 refine wloop (fun n f w_15 => ∃ (col_16 : Col) (k_13 : Nat) (k_17 : Int) (l_14 : List Int), n = l_14.length ∧ e_6.drop k_13 = l_14 ∧ m_model_rows_L1 p0_n l_14 k_17 = some r ∧ St w0 (col0 col) col_16 w_15 ∧ Sl (Rep.int .i64) col_16 w_15 a_10 cap_11 e_6 ∧ Sl Rep.str col_16 w_15 a0_0 cap0_0 p0_n.2.1 ∧ Sl (Rep.slice Rep.str) col_16 w_15 a0_2 cap0_2 p0_n.2.2.1 ∧ Sl (Rep.slice (Rep.int .i64)) col_16 w_15 a0_4 cap0_4 p0_n.2.2.2.1 ∧ Sl (Rep.slice (Rep.pair (Rep.pair Rep.bool (Rep.slice (Rep.int .u32))) (Rep.slice (Rep.int .u32)))) col_16 w_15 a0_6 cap0_6 p0_n.2.2.2.2 ∧ Box 28 1 col_16 w_15 g_1 #[(.string p0_n.1), (.slice a0_0 p0_n.2.1.length cap0_0), (.slice a0_2 p0_n.2.2.1.length cap0_2), (.slice a0_4 p0_n.2.2.2.1.length cap0_4), (.slice a0_6 p0_n.2.2.2.2.length cap0_6)] ∧ f 14 = (.int .i64 (k_13 : Int)) ∧ f 12 = (.slice a_10 e_6.length cap_11) ∧ f 13 = (.int .i64 (e_6.length : Int)) ∧ f 2 = (.pointer (some ⟨g_1, 0, none⟩)) ∧ f 5 = (.int .i64 k_17) ∧ f 1000000 = (enc [])) e_6.length ⟨col_3, 0, 1, e_6, rfl, rfl, hm, hst, h_12, h0_0, h0_2, h0_4, h0_6, hb_5, rfl, rfl, rfl, rfl, rfl, rfl⟩ ?_
 clear hm; intro n f w_15 hI
 obtain ⟨col_16, k_13, k_17, l_14, hn, hl, hm, hst, h_12, h0_0, h0_2, h0_4, h0_6, hb_5, hs14, hs12, hs13, hs2, hs5, hs1000000⟩ := hI
 subst hn
 refine .lD 14 hs14 ?_
 refine .lD 12 hs12 ?_
 refine .lD 13 hs13 ?_
 refine .lD 2 hs2 ?_
 refine .lD 5 hs5 ?_
 refine .lD 1000000 hs1000000 ?_
 clear hs14 hs12 hs13 hs2 hs5 hs1000000
 cases l_14 with
 | nil =>
  have hk : ¬ ((k_13 : Int) < (e_6.length : Int)) := by have := List.drop_eq_nil_iff.1 hl; omega
  have hkb := decide_eq_false hk
  rw [m_model_rows_L1.eq_1] at hm
  refine wS (wR ?_)
  refine lV (.bool (decide ((k_13 : Int) < (e_6.length : Int)))) (r_lss (k_13 : Int) (e_6.length : Int) rfl rfl) ?_
  refine lN (wS ?_)
  refine wcondF (congrArg Value.bool hkb) ?_
  refine wexit (inB_hit ?_)
  refine wS (wR ?_)
  refine lM (.int .i64 k_17) ?_
  refine lA (.int .i64 k_17) ?_
  refine lN ?_
  refine wret ?_
  cases hm
  exact ⟨rfl, rfl, hst.below⟩
 | cons x_18 l_19 =>
  obtain ⟨hat, hl2_L1, hlt_L1⟩ := drop_get hl
  have hk : (k_13 : Int) < (e_6.length : Int) := by omega
  have hkb := decide_eq_true hk
  rw [m_model_rows_L1.eq_2] at hm
  refine wS (wR ?_)
  refine lV (.bool (decide ((k_13 : Int) < (e_6.length : Int)))) (r_lss (k_13 : Int) (e_6.length : Int) rfl rfl) ?_
  refine lN (wS ?_)
  refine wcondT (congrArg Value.bool hkb) ?_
  refine wK (wS (wB (wS (wR ?_))))
  refine lV (sptr a_10 (Int.toNat (k_13 : Int) * 1)) (r_idx Tryz.underlying33 Tryz.sizeOf3 rfl rfl (at?_some hat).1 (at?_some hat).2.1 (h_12.addr hat)) ?_
  refine lV (.int .i64 x_18) (r_ld Tryz.isAgg3 rfl (h_12.atInt hat)) ?_
  refine lA (.int .i64 x_18) ?_
  refine lN (wR ?_)
  refine lM (.int .i64 k_17) ?_
  refine lV (.pointer ((some (⟨g_1, 0, none⟩ : Addr)).map (·.add 2))) (rF (sz := 1) (off := 2) Tryz.underlying28 rfl Tryz.sizeOf24 (by decide) rfl rfl ⟨_, _, rfl⟩) ?_
  refine lV (.slice a0_2 p0_n.2.2.1.length cap0_2) (r_ld Tryz.isAgg24 rfl ((hb_5.atN).nth (q := 2) (v := (.slice a0_2 p0_n.2.2.1.length cap0_2)) rfl)) ?_
  refine lM (.int .i64 x_18) ?_
  obtain ⟨e_20, hj_21, hm⟩ := bS hm
  refine lV (sptr a0_2 (Int.toNat x_18 * 1)) (r_idx Tryz.underlying24 Tryz.sizeOf23 rfl rfl (at?_some hj_21).1 (at?_some hj_21).2.1 (h0_2.addr hj_21)) ?_
  obtain ⟨_, hr_22, hA_23⟩ := h0_2.atN hj_21
  obtain ⟨⟨a_24, cap_25, rfl, h_26⟩, _⟩ := hr_22
  refine lV (.slice a_24 e_20.length cap_25) (r_ld Tryz.isAgg23 rfl hA_23.one) ?_
  refine lV (.int .i64 (e_20.length : Int)) (r_len Tryz.underlying23 rfl) ?_
  refine lV (.int .i64 (IntKind.i64.wrap (k_17 * (e_20.length : Int)))) (r_mul k_17 (e_20.length : Int) rfl rfl) ?_
  refine lV (.int .i64 (if 1099511627776 < (IntKind.i64.wrap (k_17 * (e_20.length : Int))) then 1099511627776 else (IntKind.i64.wrap (k_17 * (e_20.length : Int))))) (r_min (IntKind.i64.wrap (k_17 * (e_20.length : Int))) 1099511627776 rfl rfl) ?_
  refine lA (.int .i64 (if 1099511627776 < (IntKind.i64.wrap (k_17 * (e_20.length : Int))) then 1099511627776 else (IntKind.i64.wrap (k_17 * (e_20.length : Int))))) ?_
  refine lN (wR ?_)
  refine lV (.int .i64 (IntKind.i64.wrap ((k_13 : Int) + 1))) (r_add (k_13 : Int) 1 rfl rfl) ?_
  refine lM (.int .i64 (IntKind.i64.wrap ((k_13 : Int) + 1))) ?_
  refine lN ?_
  exact ⟨l_19.length, by simp, ⟨col_16, (k_13 + 1), (if 1099511627776 < (IntKind.i64.wrap (k_17 * (e_20.length : Int))) then 1099511627776 else (IntKind.i64.wrap (k_17 * (e_20.length : Int)))), l_19, rfl, hl2_L1, hm, hst, h_12, h0_0, h0_2, h0_4, h0_6, hb_5, (congrArg (Value.int .i64) (wrap_succ (Nat.lt_of_lt_of_le hlt_L1 h_12.1.1))), rfl, rfl, rfl, rfl, rfl⟩⟩
def m_model_Check_L3 (N : Nat) (p0_n : (ByteArray × (List ByteArray) × (List (List ByteArray)) × (List (List Int)) × (List (List ((Bool × (List Int)) × (List Int)))))) : List (List ((Bool × (List Int)) × (List Int))) → Nat → Option Int
  | [], k_33 => some 0
  | x_37 :: l_38, k_33 => (at? p0_n.2.2.1 (k_33 : Int)).bind fun e_44 => (m_model_fittings N x_37).bind fun r_52 => (m_model_whole N r_52 (e_44.length : Int)).bind fun r_61 => if (!r_61) = true then none else ((m_model_Check_L3 N p0_n l_38) (k_33 + 1))
termination_by structural x => x
def m_model_Check_L2 (N : Nat) (p0_n : (ByteArray × (List ByteArray) × (List (List ByteArray)) × (List (List Int)) × (List (List ((Bool × (List Int)) × (List Int)))))) : List (List ((Bool × (List Int)) × (List Int))) → Option Int
  | [] => m_model_Check_L3 N p0_n p0_n.2.2.2.2 0
  | x_31 :: l_32 => (m_model_fittings N x_31).bind fun r_71 => (m_slices_ContainsFunc_api_Rat_api_Rat_v1f119 N r_71).bind fun r_79 => if r_79 = true then none else (m_model_Check_L2 N p0_n l_32)
termination_by structural x => x
def m_model_Check_L1 (N : Nat) (p0_n : (ByteArray × (List ByteArray) × (List (List ByteArray)) × (List (List Int)) × (List (List ((Bool × (List Int)) × (List Int)))))) : List (List ((Bool × (List Int)) × (List Int))) → Nat → Option Int
  | [], k_21 => m_model_Check_L2 N p0_n p0_n.2.2.2.2 
  | x_25 :: l_26, k_21 => (m_model_rows (p0_n.1, p0_n.2.1, p0_n.2.2.1, p0_n.2.2.2.1, p0_n.2.2.2.2) (k_21 : Int)).bind fun r_88 => (at? p0_n.2.2.1 (k_21 : Int)).bind fun e_90 => if (decide (65536 < (IntKind.i64.wrap (r_88 * (e_90.length : Int))))) = true then none else (if (!decide ((IntKind.i64.wrap (r_88 * (e_90.length : Int))) = (x_25.length : Int))) = true then none else ((m_model_Check_L1 N p0_n l_26) (k_21 + 1)))
termination_by structural x => x
def m_model_Check_J1 (N : Nat) (p0_n : (ByteArray × (List ByteArray) × (List (List ByteArray)) × (List (List Int)) × (List (List ((Bool × (List Int)) × (List Int)))))) (v_12 : Bool) : Option Int :=
  if v_12 = true then none else (if (decide (1024 < (p0_n.2.1.length : Int))) = true then none else ((m_model_named (p0_n.1, p0_n.2.1, p0_n.2.2.1, p0_n.2.2.2.1, p0_n.2.2.2.2)).bind fun r_13 => if (!decide (r_13 = 0)) = true then none else ((m_dag_Check N p0_n.2.2.2.1).bind fun r_17 => if (!decide (r_17 = 0)) = true then none else (m_model_Check_L1 N p0_n p0_n.2.2.2.2 0))))
def m_model_Check (N : Nat) (p0_n : (ByteArray × (List ByteArray) × (List (List ByteArray)) × (List (List Int)) × (List (List ((Bool × (List Int)) × (List Int)))))) : Option Int :=
  if (!decide ((p0_n.2.2.1.length : Int) = (p0_n.2.1.length : Int))) = true then (m_model_Check_J1 N p0_n true) else (if (!decide ((p0_n.2.2.2.1.length : Int) = (p0_n.2.1.length : Int))) = true then (m_model_Check_J1 N p0_n true) else (m_model_Check_J1 N p0_n (!decide ((p0_n.2.2.2.2.length : Int) = (p0_n.2.1.length : Int)))))
theorem c_model_Check (N : Nat) (col : Col) (w0 : World) (a0_0 : Option Addr) (cap0_0 : Nat) (a0_2 : Option Addr) (cap0_2 : Nat) (a0_4 : Option Addr) (cap0_4 : Nat) (a0_6 : Option Addr) (cap0_6 : Nat) (p0_n : (ByteArray × (List ByteArray) × (List (List ByteArray)) × (List (List Int)) × (List (List ((Bool × (List Int)) × (List Int)))))) (h0_0 : Sl Rep.str col w0 a0_0 cap0_0 p0_n.2.1) (h0_2 : Sl (Rep.slice Rep.str) col w0 a0_2 cap0_2 p0_n.2.2.1) (h0_4 : Sl (Rep.slice (Rep.int .i64)) col w0 a0_4 cap0_4 p0_n.2.2.2.1) (h0_6 : Sl (Rep.slice (Rep.pair (Rep.pair Rep.bool (Rep.slice (Rep.int .u32))) (Rep.slice (Rep.int .u32)))) col w0 a0_6 cap0_6 p0_n.2.2.2.2) (r : Int) (hm : m_model_Check N p0_n = some r) :
    Calls Tryz.prog 69 #[(.agg #[(.string p0_n.1), (.slice a0_0 p0_n.2.1.length cap0_0), (.slice a0_2 p0_n.2.2.1.length cap0_2), (.slice a0_4 p0_n.2.2.2.1.length cap0_4), (.slice a0_6 p0_n.2.2.2.2.length cap0_6)])] w0 (fun e w' => e = .returned ((.int .i64 r)) ∧ Below w0.heap.size w0 w') := by
 refine calls_of1 2 (m := 103) (args := [(.agg #[(.string p0_n.1), (.slice a0_0 p0_n.2.1.length cap0_0), (.slice a0_2 p0_n.2.2.1.length cap0_2), (.slice a0_4 p0_n.2.2.2.1.length cap0_4), (.slice a0_6 p0_n.2.2.2.2.length cap0_6)])]) Tryz.func69 rfl rfl rfl rfl rfl ?_
 rw [m_model_Check.eq_1] at hm
 have hst := St.start col w0
 refine wS (wR ?_)
 refine l_box (col := (col0 col)) (v := (.agg #[(.string p0_n.1), (.slice a0_0 p0_n.2.1.length cap0_0), (.slice a0_2 p0_n.2.2.1.length cap0_2), (.slice a0_4 p0_n.2.2.2.1.length cap0_4), (.slice a0_6 p0_n.2.2.2.2.length cap0_6)])) 1 rfl rfl ?_
 intro g_1 w_2 col_3 hg_4 hb_5
 replace hb_5 : Box 28 1 col_3 w_2 g_1 #[(.string p0_n.1), (.slice a0_0 p0_n.2.1.length cap0_0), (.slice a0_2 p0_n.2.2.1.length cap0_2), (.slice a0_4 p0_n.2.2.2.1.length cap0_4), (.slice a0_6 p0_n.2.2.2.2.length cap0_6)] := hb_5
 refine lA (.int .i64 0) ?_
 refine lN (wS (wR ?_))
 refine lV (.pointer ((some (⟨g_1, 0, none⟩ : Addr)).map (·.add 1))) (rF (sz := 1) (off := 1) Tryz.underlying28 rfl Tryz.sizeOf23 (by decide) rfl rfl ⟨_, _, rfl⟩) ?_
 refine lV (.slice a0_0 p0_n.2.1.length cap0_0) (r_ld Tryz.isAgg23 rfl ((hb_5.atN).nth (q := 1) (v := (.slice a0_0 p0_n.2.1.length cap0_0)) rfl)) ?_
 refine lV (.int .i64 (p0_n.2.1.length : Int)) (r_len Tryz.underlying23 rfl) ?_
 refine lA (.int .i64 (p0_n.2.1.length : Int)) ?_
 refine lN (wS (wS ?_))
 replace h0_0 := (h0_0.keep (Stay.start col w0)).gr hg_4
 replace h0_2 := (h0_2.keep (Stay.start col w0)).gr hg_4
 replace h0_4 := (h0_4.keep (Stay.start col w0)).gr hg_4
 replace h0_6 := (h0_6.keep (Stay.start col w0)).gr hg_4
 replace hst := hst.grow hg_4
 refine Wp.cut (fun f w_10 => ∃ (col_11 : Col) (v_12 : Bool), m_model_Check_J1 N p0_n v_12 = some r ∧ St w0 (col0 col) col_11 w_10 ∧ Sl Rep.str col_11 w_10 a0_0 cap0_0 p0_n.2.1 ∧ Sl (Rep.slice Rep.str) col_11 w_10 a0_2 cap0_2 p0_n.2.2.1 ∧ Sl (Rep.slice (Rep.int .i64)) col_11 w_10 a0_4 cap0_4 p0_n.2.2.2.1 ∧ Sl (Rep.slice (Rep.pair (Rep.pair Rep.bool (Rep.slice (Rep.int .u32))) (Rep.slice (Rep.int .u32)))) col_11 w_10 a0_6 cap0_6 p0_n.2.2.2.2 ∧ Box 28 1 col_11 w_10 g_1 #[(.string p0_n.1), (.slice a0_0 p0_n.2.1.length cap0_0), (.slice a0_2 p0_n.2.2.1.length cap0_2), (.slice a0_4 p0_n.2.2.2.1.length cap0_4), (.slice a0_6 p0_n.2.2.2.2.length cap0_6)] ∧ f 1 = (.pointer (some ⟨g_1, 0, none⟩)) ∧ f 3 = (.int .i64 (p0_n.2.1.length : Int)) ∧ f 34 = (.bool v_12) ∧ f 1000000 = (enc [])) ?_ ?_
 ·intro f w_10 hJ
  obtain ⟨col_11, v_12, hm, hst, h0_0, h0_2, h0_4, h0_6, hb_5, hs1, hs3, hs34, hs1000000⟩ := hJ
  rw [m_model_Check_J1.eq_1] at hm
  refine .lD 1 hs1 ?_
  refine .lD 3 hs3 ?_
  refine .lD 34 hs34 ?_
  refine .lD 1000000 hs1000000 ?_
  clear hs1 hs3 hs34 hs1000000
  refine wcond (v_12) rfl (fun hb => ?_) (fun hb => ?_)
  ·rw [if_pos hb] at hm
   clear hb
   cases hm
  rw [if_neg (by rw [hb]; decide)] at hm
  clear hb
  refine wK (wS (wS (wR ?_)))
  refine lM (.int .i64 (p0_n.2.1.length : Int)) ?_
  refine lV (.bool (decide (1024 < (p0_n.2.1.length : Int)))) (r_gtr (p0_n.2.1.length : Int) 1024 rfl rfl) ?_
  refine lN ?_
  refine wcond (decide (1024 < (p0_n.2.1.length : Int))) rfl (fun hb => ?_) (fun hb => ?_)
  ·rw [if_pos hb] at hm
   clear hb
   cases hm
  rw [if_neg (by rw [hb]; decide)] at hm
  clear hb
  refine wK (wS (wS (wR ?_)))
  refine lV (.agg #[(.string p0_n.1), (.slice a0_0 p0_n.2.1.length cap0_0), (.slice a0_2 p0_n.2.2.1.length cap0_2), (.slice a0_4 p0_n.2.2.2.1.length cap0_4), (.slice a0_6 p0_n.2.2.2.2.length cap0_6)]) (r_ldN Tryz.isAgg28 Tryz.sizeOf28 rfl rfl hb_5.atN) ?_
  obtain ⟨r_13, hr_14, hm⟩ := bS hm
  refine lc rfl rfl (r_call1 Tryz.call114 rfl) (c_model_named col_11 _ a0_0 cap0_0 a0_2 cap0_2 a0_4 cap0_4 a0_6 cap0_6 (p0_n.1, p0_n.2.1, p0_n.2.2.1, p0_n.2.2.2.1, p0_n.2.2.2.2) h0_0 h0_2 h0_4 h0_6 r_13 hr_14) ?_
  rintro _ w_15 ⟨rfl, hg_16⟩
  refine ⟨_, rfl, ?_⟩
  replace hg_16 : Grow col_11 w_10 col_11 w_15 := .of_below hg_16
  refine lA (.int .i64 r_13) ?_
  refine lN (wS (wR ?_))
  refine lM (.int .i64 r_13) ?_
  refine lV (.bool (!decide (r_13 = 0))) (r_neq r_13 0 rfl rfl) ?_
  refine lN ?_
  replace h0_0 := h0_0.gr hg_16
  replace h0_2 := h0_2.gr hg_16
  replace h0_4 := h0_4.gr hg_16
  replace h0_6 := h0_6.gr hg_16
  replace hb_5 := hb_5.gr hg_16
  replace hst := hst.grow hg_16
  refine wcond (!decide (r_13 = 0)) rfl (fun hb => ?_) (fun hb => ?_)
  ·rw [if_pos hb] at hm
   clear hb
   cases hm
  rw [if_neg (by rw [hb]; decide)] at hm
  clear hb
  refine wK (wS (wS (wR ?_)))
  refine lV (.pointer ((some (⟨g_1, 0, none⟩ : Addr)).map (·.add 3))) (rF (sz := 1) (off := 3) Tryz.underlying28 rfl Tryz.sizeOf25 (by decide) rfl rfl ⟨_, _, rfl⟩) ?_
  refine lV (.slice a0_4 p0_n.2.2.2.1.length cap0_4) (r_ld Tryz.isAgg25 rfl ((hb_5.atN).nth (q := 3) (v := (.slice a0_4 p0_n.2.2.2.1.length cap0_4)) rfl)) ?_
  obtain ⟨r_17, hr_18, hm⟩ := bS hm
  refine lc rfl rfl (r_call1 Tryz.call115 rfl) (c_dag_Check N col_11 _ a0_4 cap0_4 p0_n.2.2.2.1 h0_4 r_17 hr_18) ?_
  rintro _ w_19 ⟨rfl, hg_20⟩
  refine ⟨_, rfl, ?_⟩
  replace hg_20 : Grow col_11 w_15 col_11 w_19 := .of_below hg_20
  refine lA (.int .i64 r_17) ?_
  refine lN (wS (wR ?_))
  refine lM (.int .i64 r_17) ?_
  refine lV (.bool (!decide (r_17 = 0))) (r_neq r_17 0 rfl rfl) ?_
  refine lN ?_
  replace h0_0 := h0_0.gr hg_20
  replace h0_2 := h0_2.gr hg_20
  replace h0_4 := h0_4.gr hg_20
  replace h0_6 := h0_6.gr hg_20
  replace hb_5 := hb_5.gr hg_20
  replace hst := hst.grow hg_20
  refine wcond (!decide (r_17 = 0)) rfl (fun hb => ?_) (fun hb => ?_)
  ·rw [if_pos hb] at hm
   clear hb
   cases hm
  rw [if_neg (by rw [hb]; decide)] at hm
  clear hb
  refine wK (wS (wS (wR ?_)))
  refine lV (.pointer ((some (⟨g_1, 0, none⟩ : Addr)).map (·.add 4))) (rF (sz := 1) (off := 4) Tryz.underlying28 rfl Tryz.sizeOf26 (by decide) rfl rfl ⟨_, _, rfl⟩) ?_
  refine lV (.slice a0_6 p0_n.2.2.2.2.length cap0_6) (r_ld Tryz.isAgg26 rfl ((hb_5.atN).nth (q := 4) (v := (.slice a0_6 p0_n.2.2.2.2.length cap0_6)) rfl)) ?_
  refine lV (.int .i64 (p0_n.2.2.2.2.length : Int)) (r_len Tryz.underlying26 rfl) ?_
  refine lM (.int .i64 0) ?_
  refine lN (wB ?_)
  refine wloop (fun n f w_23 => ∃ (col_24 : Col) (k_21 : Nat) (l_22 : List (List ((Bool × (List Int)) × (List Int)))), n = l_22.length ∧ p0_n.2.2.2.2.drop k_21 = l_22 ∧ m_model_Check_L1 N p0_n l_22 k_21 = some r ∧ St w0 (col0 col) col_24 w_23 ∧ Sl Rep.str col_24 w_23 a0_0 cap0_0 p0_n.2.1 ∧ Sl (Rep.slice Rep.str) col_24 w_23 a0_2 cap0_2 p0_n.2.2.1 ∧ Sl (Rep.slice (Rep.int .i64)) col_24 w_23 a0_4 cap0_4 p0_n.2.2.2.1 ∧ Sl (Rep.slice (Rep.pair (Rep.pair Rep.bool (Rep.slice (Rep.int .u32))) (Rep.slice (Rep.int .u32)))) col_24 w_23 a0_6 cap0_6 p0_n.2.2.2.2 ∧ Box 28 1 col_24 w_23 g_1 #[(.string p0_n.1), (.slice a0_0 p0_n.2.1.length cap0_0), (.slice a0_2 p0_n.2.2.1.length cap0_2), (.slice a0_4 p0_n.2.2.2.1.length cap0_4), (.slice a0_6 p0_n.2.2.2.2.length cap0_6)] ∧ f 51 = (.int .i64 (k_21 : Int)) ∧ f 1 = (.pointer (some ⟨g_1, 0, none⟩)) ∧ f 49 = (.slice a0_6 p0_n.2.2.2.2.length cap0_6) ∧ f 50 = (.int .i64 (p0_n.2.2.2.2.length : Int)) ∧ f 1000000 = (enc [])) p0_n.2.2.2.2.length ⟨col_11, 0, p0_n.2.2.2.2, rfl, rfl, hm, hst, h0_0, h0_2, h0_4, h0_6, hb_5, rfl, rfl, rfl, rfl, rfl⟩ ?_
  clear hm; intro n f w_23 hI
  obtain ⟨col_24, k_21, l_22, hn, hl, hm, hst, h0_0, h0_2, h0_4, h0_6, hb_5, hs51, hs1, hs49, hs50, hs1000000⟩ := hI
  subst hn
  refine .lD 51 hs51 ?_
  refine .lD 1 hs1 ?_
  refine .lD 49 hs49 ?_
  refine .lD 50 hs50 ?_
  refine .lD 1000000 hs1000000 ?_
  clear hs51 hs1 hs49 hs50 hs1000000
  cases l_22 with
  | nil =>
   have hk : ¬ ((k_21 : Int) < (p0_n.2.2.2.2.length : Int)) := by have := List.drop_eq_nil_iff.1 hl; omega
   have hkb := decide_eq_false hk
   rw [m_model_Check_L1.eq_1] at hm
   refine wS (wR ?_)
   refine lV (.bool (decide ((k_21 : Int) < (p0_n.2.2.2.2.length : Int)))) (r_lss (k_21 : Int) (p0_n.2.2.2.2.length : Int) rfl rfl) ?_
   refine lN (wS ?_)
   refine wcondF (congrArg Value.bool hkb) ?_
   refine wexit (inB_hit ?_)
   refine wS (wS (wR ?_))
   refine lV (.pointer ((some (⟨g_1, 0, none⟩ : Addr)).map (·.add 4))) (rF (sz := 1) (off := 4) Tryz.underlying28 rfl Tryz.sizeOf26 (by decide) rfl rfl ⟨_, _, rfl⟩) ?_
   refine lV (.slice a0_6 p0_n.2.2.2.2.length cap0_6) (r_ld Tryz.isAgg26 rfl ((hb_5.atN).nth (q := 4) (v := (.slice a0_6 p0_n.2.2.2.2.length cap0_6)) rfl)) ?_
   refine lV (.int .i64 (p0_n.2.2.2.2.length : Int)) (r_len Tryz.underlying26 rfl) ?_
   refine lM (.int .i64 0) ?_
   refine lN (wB ?_)
   refine wloop (fun n f w_29 => ∃ (col_30 : Col) (k_27 : Nat) (l_28 : List (List ((Bool × (List Int)) × (List Int)))), n = l_28.length ∧ p0_n.2.2.2.2.drop k_27 = l_28 ∧ m_model_Check_L2 N p0_n l_28  = some r ∧ St w0 (col0 col) col_30 w_29 ∧ Sl Rep.str col_30 w_29 a0_0 cap0_0 p0_n.2.1 ∧ Sl (Rep.slice Rep.str) col_30 w_29 a0_2 cap0_2 p0_n.2.2.1 ∧ Sl (Rep.slice (Rep.int .i64)) col_30 w_29 a0_4 cap0_4 p0_n.2.2.2.1 ∧ Sl (Rep.slice (Rep.pair (Rep.pair Rep.bool (Rep.slice (Rep.int .u32))) (Rep.slice (Rep.int .u32)))) col_30 w_29 a0_6 cap0_6 p0_n.2.2.2.2 ∧ Box 28 1 col_30 w_29 g_1 #[(.string p0_n.1), (.slice a0_0 p0_n.2.1.length cap0_0), (.slice a0_2 p0_n.2.2.1.length cap0_2), (.slice a0_4 p0_n.2.2.2.1.length cap0_4), (.slice a0_6 p0_n.2.2.2.2.length cap0_6)] ∧ f 76 = (.int .i64 (k_27 : Int)) ∧ f 1 = (.pointer (some ⟨g_1, 0, none⟩)) ∧ f 74 = (.slice a0_6 p0_n.2.2.2.2.length cap0_6) ∧ f 75 = (.int .i64 (p0_n.2.2.2.2.length : Int)) ∧ f 1000000 = (enc [])) p0_n.2.2.2.2.length ⟨col_24, 0, p0_n.2.2.2.2, rfl, rfl, hm, hst, h0_0, h0_2, h0_4, h0_6, hb_5, rfl, rfl, rfl, rfl, rfl⟩ ?_
   clear hm; intro n f w_29 hI
   obtain ⟨col_30, k_27, l_28, hn, hl, hm, hst, h0_0, h0_2, h0_4, h0_6, hb_5, hs76, hs1, hs74, hs75, hs1000000⟩ := hI
   subst hn
   refine .lD 76 hs76 ?_
   refine .lD 1 hs1 ?_
   refine .lD 74 hs74 ?_
   refine .lD 75 hs75 ?_
   refine .lD 1000000 hs1000000 ?_
   clear hs76 hs1 hs74 hs75 hs1000000
   cases l_28 with
   | nil =>
    have hk : ¬ ((k_27 : Int) < (p0_n.2.2.2.2.length : Int)) := by have := List.drop_eq_nil_iff.1 hl; omega
    have hkb := decide_eq_false hk
    rw [m_model_Check_L2.eq_1] at hm
    refine wS (wR ?_)
    refine lV (.bool (decide ((k_27 : Int) < (p0_n.2.2.2.2.length : Int)))) (r_lss (k_27 : Int) (p0_n.2.2.2.2.length : Int) rfl rfl) ?_
    refine lN (wS ?_)
    refine wcondF (congrArg Value.bool hkb) ?_
    refine wexit (inB_hit ?_)
    refine wS (wS (wR ?_))
    refine lV (.pointer ((some (⟨g_1, 0, none⟩ : Addr)).map (·.add 4))) (rF (sz := 1) (off := 4) Tryz.underlying28 rfl Tryz.sizeOf26 (by decide) rfl rfl ⟨_, _, rfl⟩) ?_
    refine lV (.slice a0_6 p0_n.2.2.2.2.length cap0_6) (r_ld Tryz.isAgg26 rfl ((hb_5.atN).nth (q := 4) (v := (.slice a0_6 p0_n.2.2.2.2.length cap0_6)) rfl)) ?_
    refine lV (.int .i64 (p0_n.2.2.2.2.length : Int)) (r_len Tryz.underlying26 rfl) ?_
    refine lM (.int .i64 0) ?_
    refine lN (wB ?_)
    refine wloop (fun n f w_35 => ∃ (col_36 : Col) (k_33 : Nat) (l_34 : List (List ((Bool × (List Int)) × (List Int)))), n = l_34.length ∧ p0_n.2.2.2.2.drop k_33 = l_34 ∧ m_model_Check_L3 N p0_n l_34 k_33 = some r ∧ St w0 (col0 col) col_36 w_35 ∧ Sl Rep.str col_36 w_35 a0_0 cap0_0 p0_n.2.1 ∧ Sl (Rep.slice Rep.str) col_36 w_35 a0_2 cap0_2 p0_n.2.2.1 ∧ Sl (Rep.slice (Rep.int .i64)) col_36 w_35 a0_4 cap0_4 p0_n.2.2.2.1 ∧ Sl (Rep.slice (Rep.pair (Rep.pair Rep.bool (Rep.slice (Rep.int .u32))) (Rep.slice (Rep.int .u32)))) col_36 w_35 a0_6 cap0_6 p0_n.2.2.2.2 ∧ Box 28 1 col_36 w_35 g_1 #[(.string p0_n.1), (.slice a0_0 p0_n.2.1.length cap0_0), (.slice a0_2 p0_n.2.2.1.length cap0_2), (.slice a0_4 p0_n.2.2.2.1.length cap0_4), (.slice a0_6 p0_n.2.2.2.2.length cap0_6)] ∧ f 87 = (.int .i64 (k_33 : Int)) ∧ f 1 = (.pointer (some ⟨g_1, 0, none⟩)) ∧ f 85 = (.slice a0_6 p0_n.2.2.2.2.length cap0_6) ∧ f 86 = (.int .i64 (p0_n.2.2.2.2.length : Int)) ∧ f 1000000 = (enc [])) p0_n.2.2.2.2.length ⟨col_30, 0, p0_n.2.2.2.2, rfl, rfl, hm, hst, h0_0, h0_2, h0_4, h0_6, hb_5, rfl, rfl, rfl, rfl, rfl⟩ ?_
    clear hm; intro n f w_35 hI
    obtain ⟨col_36, k_33, l_34, hn, hl, hm, hst, h0_0, h0_2, h0_4, h0_6, hb_5, hs87, hs1, hs85, hs86, hs1000000⟩ := hI
    subst hn
    refine .lD 87 hs87 ?_
    refine .lD 1 hs1 ?_
    refine .lD 85 hs85 ?_
    refine .lD 86 hs86 ?_
    refine .lD 1000000 hs1000000 ?_
    clear hs87 hs1 hs85 hs86 hs1000000
    cases l_34 with
    | nil =>
     have hk : ¬ ((k_33 : Int) < (p0_n.2.2.2.2.length : Int)) := by have := List.drop_eq_nil_iff.1 hl; omega
     have hkb := decide_eq_false hk
     rw [m_model_Check_L3.eq_1] at hm
     refine wS (wR ?_)
     refine lV (.bool (decide ((k_33 : Int) < (p0_n.2.2.2.2.length : Int)))) (r_lss (k_33 : Int) (p0_n.2.2.2.2.length : Int) rfl rfl) ?_
     refine lN (wS ?_)
     refine wcondF (congrArg Value.bool hkb) ?_
     refine wexit (inB_hit ?_)
     refine wS (wR ?_)
     refine lA (.int .i64 0) ?_
     refine lN ?_
     refine wret ?_
     cases hm
     exact ⟨rfl, rfl, hst.below⟩
    | cons x_37 l_38 =>
     obtain ⟨hat, hl2_L3, hlt_L3⟩ := drop_get hl
     have hk : (k_33 : Int) < (p0_n.2.2.2.2.length : Int) := by omega
     have hkb := decide_eq_true hk
     rw [m_model_Check_L3.eq_2] at hm
     refine wS (wR ?_)
     refine lV (.bool (decide ((k_33 : Int) < (p0_n.2.2.2.2.length : Int)))) (r_lss (k_33 : Int) (p0_n.2.2.2.2.length : Int) rfl rfl) ?_
     refine lN (wS ?_)
     refine wcondT (congrArg Value.bool hkb) ?_
     refine wK (wS (wB (wS (wR ?_))))
     refine lM (.int .i64 (k_33 : Int)) ?_
     refine lV (sptr a0_6 (Int.toNat (k_33 : Int) * 1)) (r_idx Tryz.underlying26 Tryz.sizeOf51 rfl rfl (at?_some hat).1 (at?_some hat).2.1 (h0_6.addr hat)) ?_
     obtain ⟨_, hr_39, hA_40⟩ := h0_6.atN hat
     obtain ⟨⟨a_41, cap_42, rfl, h_43⟩, _⟩ := hr_39
     refine lV (.slice a_41 x_37.length cap_42) (r_ld Tryz.isAgg51 rfl hA_40.one) ?_
     refine lA (.int .i64 (k_33 : Int)) ?_
     refine lA (.slice a_41 x_37.length cap_42) ?_
     refine lN (wS ?_)
     refine wmix (col := col_36) [(0, 1), (2, 1), (3, 0), (4, 1), (5, 1), (6, 0), (7, 1), (1, 3), (8, 3), (9, 1)] (by kernel_rfl) (by kernel_rfl) ?_
     refine xu (v := (.slice a_41 x_37.length cap_42)) rfl rfl (fun _ => r_move rfl) ?_
     refine xu (v := (.pointer ((some (⟨g_1, 0, none⟩ : Addr)).map (·.add 2)))) rfl rfl (fun _ => rF (sz := 1) (off := 2) Tryz.underlying28 rfl Tryz.sizeOf24 (by decide) rfl rfl ⟨_, _, rfl⟩) ?_
     refine xv (v := (.slice a0_2 p0_n.2.2.1.length cap0_2)) rfl rfl (fun _ hC => r_ld Tryz.isAgg24 rfl (((hb_5.atN).nth (q := 2) (v := (.slice a0_2 p0_n.2.2.1.length cap0_2)) rfl).gr (Grow.of_below (col := col_36) hC.below))) ?_
     refine xu (v := (.int .i64 (k_33 : Int))) rfl rfl (fun _ => r_move rfl) ?_
     obtain ⟨e_44, hj_45, hm⟩ := bS hm
     refine xu (v := (sptr a0_2 (Int.toNat (k_33 : Int) * 1))) rfl rfl (fun _ => r_idx Tryz.underlying24 Tryz.sizeOf23 rfl rfl (at?_some hj_45).1 (at?_some hj_45).2.1 (h0_2.addr hj_45)) ?_
     obtain ⟨_, hr_46, hA_47⟩ := h0_2.atN hj_45
     obtain ⟨⟨a_48, cap_49, rfl, h_50⟩, _⟩ := hr_46
     refine xv (v := (.slice a_48 e_44.length cap_49)) rfl rfl (fun _ hC => r_ld Tryz.isAgg23 rfl (hA_47.one.gr (Grow.of_below (col := col_36) hC.below))) ?_
     refine xu (v := (.int .i64 (e_44.length : Int))) rfl rfl (fun _ => r_len Tryz.underlying23 rfl) ?_
     refine xe rfl rfl ?_
     intro w_51 hC0
     have hC : Grow col_36 w_35 col_36 w_51 := .of_below hC0.below
     obtain ⟨r_52, hr_53, hm⟩ := bS hm
     replace h_43 := h_43.gr hC
     refine lc rfl rfl (r_call1 Tryz.call118 rfl) (c_model_fittings N 2 col_36 _ a_41 cap_42 x_37 h_43 r_52 hr_53) ?_
     rintro _ w_57 ⟨col_59, ra_54, rc_55, rfl, hg_58, rh_56⟩
     refine ⟨_, rfl, ?_⟩
     refine lN ⟨fun w' => Grow col_59 w_57 col_59 w', Grow.refl _ _, fun _ _ h => cls hC0 hg_58 h, ?_⟩
     refine xe rfl rfl ?_
     intro w_60 hC0
     replace h0_0 := (h0_0.gr hC).gr hg_58
     replace h0_2 := (h0_2.gr hC).gr hg_58
     replace h0_4 := (h0_4.gr hC).gr hg_58
     replace h0_6 := (h0_6.gr hC).gr hg_58
     replace hb_5 := (hb_5.gr hC).gr hg_58
     replace hst := (hst.grow hC).grow hg_58
     have hC : Grow col_59 w_57 col_59 w_60 := .of_below hC0.below
     obtain ⟨r_61, hr_62, hm⟩ := bS hm
     replace rh_56 := rh_56.gr hC
     refine lc rfl rfl (r_call2 Tryz.call120 rfl rfl) (c_model_whole N (frC 2 col_59) _ ra_54 rc_55 r_52 (e_44.length : Int) (rh_56.toSlF (Froz.pair (Froz.pair Froz.bool Froz.slice) Froz.slice)) r_61 hr_62) ?_
     rintro _ w_63 ⟨rfl, hg_64⟩
     refine ⟨_, rfl, ?_⟩
     replace hg_64 : Grow col_59 w_60 col_59 w_63 := .of_below hg_64
     refine lN ⟨fun w' => Grow col_59 w_63 col_59 w', Grow.refl _ _, fun _ _ h => cls hC0 hg_64 h, ?_⟩
     refine xu (v := (.bool (!r_61))) rfl rfl (fun _ => r_not r_61 rfl) ?_
     refine xnil ?_
     replace h0_0 := (h0_0.gr hC).gr hg_64
     replace h0_2 := (h0_2.gr hC).gr hg_64
     replace h0_4 := (h0_4.gr hC).gr hg_64
     replace h0_6 := (h0_6.gr hC).gr hg_64
     replace hb_5 := (hb_5.gr hC).gr hg_64
     replace hst := (hst.grow hC).grow hg_64
     intro w_65 hC
     replace hC : Grow col_59 w_63 col_59 w_65 := .of_below hC.below
     replace h0_0 := h0_0.gr hC
     replace h0_2 := h0_2.gr hC
     replace h0_4 := h0_4.gr hC
     replace h0_6 := h0_6.gr hC
     replace hb_5 := hb_5.gr hC
     replace hst := hst.grow hC
     refine wcond (!r_61) rfl (fun hb => ?_) (fun hb => ?_)
     ·rw [if_pos hb] at hm
      clear hb
      cases hm
     rw [if_neg (by rw [hb]; decide)] at hm
     clear hb
     refine wK (wR ?_)
     refine lV (.int .i64 (IntKind.i64.wrap ((k_33 : Int) + 1))) (r_add (k_33 : Int) 1 rfl rfl) ?_
     refine lM (.int .i64 (IntKind.i64.wrap ((k_33 : Int) + 1))) ?_
     refine lN ?_
     exact ⟨l_38.length, by simp, ⟨col_59, (k_33 + 1), l_38, rfl, hl2_L3, hm, hst, h0_0, h0_2, h0_4, h0_6, hb_5, (congrArg (Value.int .i64) (wrap_succ (Nat.lt_of_lt_of_le hlt_L3 h0_6.1.1))), rfl, rfl, rfl, rfl⟩⟩
   | cons x_31 l_32 =>
    obtain ⟨hat, hl2_L2, hlt_L2⟩ := drop_get hl
    have hk : (k_27 : Int) < (p0_n.2.2.2.2.length : Int) := by omega
    have hkb := decide_eq_true hk
    rw [m_model_Check_L2.eq_2] at hm
    refine wS (wR ?_)
    refine lV (.bool (decide ((k_27 : Int) < (p0_n.2.2.2.2.length : Int)))) (r_lss (k_27 : Int) (p0_n.2.2.2.2.length : Int) rfl rfl) ?_
    refine lN (wS ?_)
    refine wcondT (congrArg Value.bool hkb) ?_
    refine wK (wS (wB (wS (wR ?_))))
    refine lV (sptr a0_6 (Int.toNat (k_27 : Int) * 1)) (r_idx Tryz.underlying26 Tryz.sizeOf51 rfl rfl (at?_some hat).1 (at?_some hat).2.1 (h0_6.addr hat)) ?_
    obtain ⟨_, hr_66, hA_67⟩ := h0_6.atN hat
    obtain ⟨⟨a_68, cap_69, rfl, h_70⟩, _⟩ := hr_66
    refine lV (.slice a_68 x_31.length cap_69) (r_ld Tryz.isAgg51 rfl hA_67.one) ?_
    refine lA (.slice a_68 x_31.length cap_69) ?_
    refine lN (wS (wR ?_))
    refine lM (.slice a_68 x_31.length cap_69) ?_
    obtain ⟨r_71, hr_72, hm⟩ := bS hm
    refine lc rfl rfl (r_call1 Tryz.call118 rfl) (c_model_fittings N 3 col_30 _ a_68 cap_69 x_31 h_70 r_71 hr_72) ?_
    rintro _ w_76 ⟨col_78, ra_73, rc_74, rfl, hg_77, rh_75⟩
    refine ⟨_, rfl, ?_⟩
    obtain ⟨r_79, hr_80, hm⟩ := bS hm
    refine lc rfl rfl (r_call2 Tryz.call117 rfl rfl) (c_slices_ContainsFunc_api_Rat_api_Rat_v1f119 N (frC 3 col_78) _ ra_73 rc_74 r_71 (rh_75.toSlF (Froz.pair (Froz.pair Froz.bool Froz.slice) Froz.slice)) r_79 hr_80) ?_
    rintro _ w_81 ⟨rfl, hg_82⟩
    refine ⟨_, rfl, ?_⟩
    replace hg_82 : Grow col_78 w_76 col_78 w_81 := .of_below hg_82
    refine lN ?_
    replace h0_0 := (h0_0.gr hg_77).gr hg_82
    replace h0_2 := (h0_2.gr hg_77).gr hg_82
    replace h0_4 := (h0_4.gr hg_77).gr hg_82
    replace h0_6 := (h0_6.gr hg_77).gr hg_82
    replace hb_5 := (hb_5.gr hg_77).gr hg_82
    replace hst := (hst.grow hg_77).grow hg_82
    refine wcond (r_79) rfl (fun hb => ?_) (fun hb => ?_)
    ·rw [if_pos hb] at hm
     clear hb
     cases hm
    rw [if_neg (by rw [hb]; decide)] at hm
    clear hb
    refine wK (wR ?_)
    refine lV (.int .i64 (IntKind.i64.wrap ((k_27 : Int) + 1))) (r_add (k_27 : Int) 1 rfl rfl) ?_
    refine lM (.int .i64 (IntKind.i64.wrap ((k_27 : Int) + 1))) ?_
    refine lN ?_
    exact ⟨l_32.length, by simp, ⟨col_78, (k_27 + 1), l_32, rfl, hl2_L2, hm, hst, h0_0, h0_2, h0_4, h0_6, hb_5, (congrArg (Value.int .i64) (wrap_succ (Nat.lt_of_lt_of_le hlt_L2 h0_6.1.1))), rfl, rfl, rfl, rfl⟩⟩
  | cons x_25 l_26 =>
   obtain ⟨hat, hl2_L1, hlt_L1⟩ := drop_get hl
   have hk : (k_21 : Int) < (p0_n.2.2.2.2.length : Int) := by omega
   have hkb := decide_eq_true hk
   rw [m_model_Check_L1.eq_2] at hm
   refine wS (wR ?_)
   refine lV (.bool (decide ((k_21 : Int) < (p0_n.2.2.2.2.length : Int)))) (r_lss (k_21 : Int) (p0_n.2.2.2.2.length : Int) rfl rfl) ?_
   refine lN (wS ?_)
   refine wcondT (congrArg Value.bool hkb) ?_
   refine wK (wS (wB (wS (wR ?_))))
   refine lM (.int .i64 (k_21 : Int)) ?_
   refine lV (sptr a0_6 (Int.toNat (k_21 : Int) * 1)) (r_idx Tryz.underlying26 Tryz.sizeOf51 rfl rfl (at?_some hat).1 (at?_some hat).2.1 (h0_6.addr hat)) ?_
   obtain ⟨_, hr_83, hA_84⟩ := h0_6.atN hat
   obtain ⟨⟨a_85, cap_86, rfl, h_87⟩, _⟩ := hr_83
   refine lV (.slice a_85 x_25.length cap_86) (r_ld Tryz.isAgg51 rfl hA_84.one) ?_
   refine lA (.int .i64 (k_21 : Int)) ?_
   refine lA (.slice a_85 x_25.length cap_86) ?_
   refine lN (wS ?_)
   refine wquiet (col := col_24) (by kernel_rfl) (by kernel_rfl) ?_
   refine qv (v := (.agg #[(.string p0_n.1), (.slice a0_0 p0_n.2.1.length cap0_0), (.slice a0_2 p0_n.2.2.1.length cap0_2), (.slice a0_4 p0_n.2.2.2.1.length cap0_4), (.slice a0_6 p0_n.2.2.2.2.length cap0_6)])) rfl (fun _ hC => r_ldN Tryz.isAgg28 Tryz.sizeOf28 rfl rfl (hb_5.atN.gr (Grow.of_below (col := col_24) hC.below))) ?_
   refine qv (v := (.int .i64 (k_21 : Int))) rfl (fun _ hC => r_move rfl) ?_
   obtain ⟨r_88, hr_89, hm⟩ := bS hm
   refine qc (v := (.int .i64 r_88)) rfl (fun _ hC => ⟨_, _, r_call2 Tryz.call116 rfl rfl, (c_model_rows col_24 _ a0_0 cap0_0 a0_2 cap0_2 a0_4 cap0_4 a0_6 cap0_6 (p0_n.1, p0_n.2.1, p0_n.2.2.1, p0_n.2.2.2.1, p0_n.2.2.2.2) (k_21 : Int) (h0_0.gr (Grow.of_below (col := col_24) hC.below)) (h0_2.gr (Grow.of_below (col := col_24) hC.below)) (h0_4.gr (Grow.of_below (col := col_24) hC.below)) (h0_6.gr (Grow.of_below (col := col_24) hC.below)) r_88 hr_89).mono fun _ _ h => ⟨h.1, hC.trans (.of_below h.2)⟩⟩) ?_
   refine qv (v := (.pointer ((some (⟨g_1, 0, none⟩ : Addr)).map (·.add 2)))) rfl (fun _ hC => rF (sz := 1) (off := 2) Tryz.underlying28 rfl Tryz.sizeOf24 (by decide) rfl rfl ⟨_, _, rfl⟩) ?_
   refine qv (v := (.slice a0_2 p0_n.2.2.1.length cap0_2)) rfl (fun _ hC => r_ld Tryz.isAgg24 rfl (((hb_5.atN).nth (q := 2) (v := (.slice a0_2 p0_n.2.2.1.length cap0_2)) rfl).gr (Grow.of_below (col := col_24) hC.below))) ?_
   refine qv (v := (.int .i64 (k_21 : Int))) rfl (fun _ hC => r_move rfl) ?_
   obtain ⟨e_90, hj_91, hm⟩ := bS hm
   refine qv (v := (sptr a0_2 (Int.toNat (k_21 : Int) * 1))) rfl (fun _ hC => r_idx Tryz.underlying24 Tryz.sizeOf23 rfl rfl (at?_some hj_91).1 (at?_some hj_91).2.1 (h0_2.addr hj_91)) ?_
   obtain ⟨_, hr_92, hA_93⟩ := h0_2.atN hj_91
   obtain ⟨⟨a_94, cap_95, rfl, h_96⟩, _⟩ := hr_92
   refine qv (v := (.slice a_94 e_90.length cap_95)) rfl (fun _ hC => r_ld Tryz.isAgg23 rfl (hA_93.one.gr (Grow.of_below (col := col_24) hC.below))) ?_
   refine qv (v := (.int .i64 (e_90.length : Int))) rfl (fun _ hC => r_len Tryz.underlying23 rfl) ?_
   refine qv (v := (.int .i64 (IntKind.i64.wrap (r_88 * (e_90.length : Int))))) rfl (fun _ hC => r_mul r_88 (e_90.length : Int) rfl rfl) ?_
   refine qv (v := (.int .i64 (IntKind.i64.wrap (r_88 * (e_90.length : Int))))) rfl (fun _ hC => r_assign rfl) ?_
   refine qnil ?_
   intro w_97 hC
   replace hC : Grow col_24 w_23 col_24 w_97 := .of_below hC.below
   refine wS (wS (wR ?_))
   refine lM (.int .i64 (IntKind.i64.wrap (r_88 * (e_90.length : Int)))) ?_
   refine lV (.bool (decide (65536 < (IntKind.i64.wrap (r_88 * (e_90.length : Int)))))) (r_gtr (IntKind.i64.wrap (r_88 * (e_90.length : Int))) 65536 rfl rfl) ?_
   refine lN ?_
   replace h0_0 := h0_0.gr hC
   replace h0_2 := h0_2.gr hC
   replace h0_4 := h0_4.gr hC
   replace h0_6 := h0_6.gr hC
   replace hb_5 := hb_5.gr hC
   replace hst := hst.grow hC
   refine wcond (decide (65536 < (IntKind.i64.wrap (r_88 * (e_90.length : Int))))) rfl (fun hb => ?_) (fun hb => ?_)
   ·rw [if_pos hb] at hm
    clear hb
    cases hm
   rw [if_neg (by rw [hb]; decide)] at hm
   clear hb
   refine wK (wS (wR ?_))
   refine lM (.int .i64 (IntKind.i64.wrap (r_88 * (e_90.length : Int)))) ?_
   refine lM (.slice a_85 x_25.length cap_86) ?_
   refine lV (.int .i64 (x_25.length : Int)) (r_len Tryz.underlying51 rfl) ?_
   refine lV (.bool (!decide ((IntKind.i64.wrap (r_88 * (e_90.length : Int))) = (x_25.length : Int)))) (r_neq (IntKind.i64.wrap (r_88 * (e_90.length : Int))) (x_25.length : Int) rfl rfl) ?_
   refine lN ?_
   refine wcond (!decide ((IntKind.i64.wrap (r_88 * (e_90.length : Int))) = (x_25.length : Int))) rfl (fun hb => ?_) (fun hb => ?_)
   ·rw [if_pos hb] at hm
    clear hb
    cases hm
   rw [if_neg (by rw [hb]; decide)] at hm
   clear hb
   refine wK (wR ?_)
   refine lV (.int .i64 (IntKind.i64.wrap ((k_21 : Int) + 1))) (r_add (k_21 : Int) 1 rfl rfl) ?_
   refine lM (.int .i64 (IntKind.i64.wrap ((k_21 : Int) + 1))) ?_
   refine lN ?_
   exact ⟨l_26.length, by simp, ⟨col_24, (k_21 + 1), l_26, rfl, hl2_L1, hm, hst, h0_0, h0_2, h0_4, h0_6, hb_5, (congrArg (Value.int .i64) (wrap_succ (Nat.lt_of_lt_of_le hlt_L1 h0_6.1.1))), rfl, rfl, rfl, rfl⟩⟩
 refine wR ?_
 refine lV (.pointer ((some (⟨g_1, 0, none⟩ : Addr)).map (·.add 2))) (rF (sz := 1) (off := 2) Tryz.underlying28 rfl Tryz.sizeOf24 (by decide) rfl rfl ⟨_, _, rfl⟩) ?_
 refine lV (.slice a0_2 p0_n.2.2.1.length cap0_2) (r_ld Tryz.isAgg24 rfl ((hb_5.atN).nth (q := 2) (v := (.slice a0_2 p0_n.2.2.1.length cap0_2)) rfl)) ?_
 refine lV (.int .i64 (p0_n.2.2.1.length : Int)) (r_len Tryz.underlying24 rfl) ?_
 refine lM (.int .i64 (p0_n.2.1.length : Int)) ?_
 refine lV (.bool (!decide ((p0_n.2.2.1.length : Int) = (p0_n.2.1.length : Int)))) (r_neq (p0_n.2.2.1.length : Int) (p0_n.2.1.length : Int) rfl rfl) ?_
 refine lM (.bool (!decide ((p0_n.2.2.1.length : Int) = (p0_n.2.1.length : Int)))) ?_
 by_cases hg_98 : (!decide ((p0_n.2.2.1.length : Int) = (p0_n.2.1.length : Int))) = true
 ·rw [if_pos hg_98] at hm
  refine lp (b := !decide ((p0_n.2.2.1.length : Int) = (p0_n.2.1.length : Int))) 21 rfl rfl rfl rfl (by rw [hg_98]; rfl) ?_
  refine lp (b := !decide ((p0_n.2.2.1.length : Int) = (p0_n.2.1.length : Int))) 21 rfl rfl rfl rfl (by rw [hg_98]; rfl) ?_
  refine lp (b := !decide ((p0_n.2.2.1.length : Int) = (p0_n.2.1.length : Int))) 21 rfl rfl rfl rfl (by rw [hg_98]; rfl) ?_
  refine lp (b := !decide ((p0_n.2.2.1.length : Int) = (p0_n.2.1.length : Int))) 21 rfl rfl rfl rfl (by rw [hg_98]; rfl) ?_
  refine lp (b := !decide ((p0_n.2.2.1.length : Int) = (p0_n.2.1.length : Int))) 21 rfl rfl rfl rfl (by rw [hg_98]; rfl) ?_
  refine lV (.bool true) (r_pickT (congrArg Value.bool hg_98) rfl) ?_
  refine lM (.bool true) ?_
  refine lp (b := true) 28 rfl rfl rfl rfl rfl ?_
  refine lp (b := true) 28 rfl rfl rfl rfl rfl ?_
  refine lp (b := true) 28 rfl rfl rfl rfl rfl ?_
  refine lp (b := true) 28 rfl rfl rfl rfl rfl ?_
  refine lp (b := true) 28 rfl rfl rfl rfl rfl ?_
  refine lV (.bool true) (r_pickT rfl rfl) ?_
  refine lN ?_
  exact ⟨col_3, true, hm, hst, h0_0, h0_2, h0_4, h0_6, hb_5, rfl, rfl, rfl, rfl⟩
 rw [if_neg hg_98] at hm
 replace hg_98 := Bool.eq_false_iff.2 hg_98
 refine lg (b := !decide ((p0_n.2.2.1.length : Int) = (p0_n.2.1.length : Int))) 21 rfl rfl rfl (by rw [hg_98]; rfl) ?_
 refine lV (.pointer ((some (⟨g_1, 0, none⟩ : Addr)).map (·.add 3))) (rF (sz := 1) (off := 3) Tryz.underlying28 rfl Tryz.sizeOf25 (by decide) rfl rfl ⟨_, _, rfl⟩) ?_
 refine lg (b := !decide ((p0_n.2.2.1.length : Int) = (p0_n.2.1.length : Int))) 21 rfl rfl rfl (by rw [hg_98]; rfl) ?_
 refine lV (.slice a0_4 p0_n.2.2.2.1.length cap0_4) (r_ld Tryz.isAgg25 rfl ((hb_5.atN).nth (q := 3) (v := (.slice a0_4 p0_n.2.2.2.1.length cap0_4)) rfl)) ?_
 refine lg (b := !decide ((p0_n.2.2.1.length : Int) = (p0_n.2.1.length : Int))) 21 rfl rfl rfl (by rw [hg_98]; rfl) ?_
 refine lV (.int .i64 (p0_n.2.2.2.1.length : Int)) (r_len Tryz.underlying25 rfl) ?_
 refine lg (b := !decide ((p0_n.2.2.1.length : Int) = (p0_n.2.1.length : Int))) 21 rfl rfl rfl (by rw [hg_98]; rfl) ?_
 refine lM (.int .i64 (p0_n.2.1.length : Int)) ?_
 refine lg (b := !decide ((p0_n.2.2.1.length : Int) = (p0_n.2.1.length : Int))) 21 rfl rfl rfl (by rw [hg_98]; rfl) ?_
 refine lV (.bool (!decide ((p0_n.2.2.2.1.length : Int) = (p0_n.2.1.length : Int)))) (r_neq (p0_n.2.2.2.1.length : Int) (p0_n.2.1.length : Int) rfl rfl) ?_
 refine lV (.bool (!decide ((p0_n.2.2.2.1.length : Int) = (p0_n.2.1.length : Int)))) (r_pickF (congrArg Value.bool hg_98) rfl) ?_
 refine lM (.bool (!decide ((p0_n.2.2.2.1.length : Int) = (p0_n.2.1.length : Int)))) ?_
 by_cases hg_99 : (!decide ((p0_n.2.2.2.1.length : Int) = (p0_n.2.1.length : Int))) = true
 ·rw [if_pos hg_99] at hm
  refine lp (b := !decide ((p0_n.2.2.2.1.length : Int) = (p0_n.2.1.length : Int))) 28 rfl rfl rfl rfl (by rw [hg_99]; rfl) ?_
  refine lp (b := !decide ((p0_n.2.2.2.1.length : Int) = (p0_n.2.1.length : Int))) 28 rfl rfl rfl rfl (by rw [hg_99]; rfl) ?_
  refine lp (b := !decide ((p0_n.2.2.2.1.length : Int) = (p0_n.2.1.length : Int))) 28 rfl rfl rfl rfl (by rw [hg_99]; rfl) ?_
  refine lp (b := !decide ((p0_n.2.2.2.1.length : Int) = (p0_n.2.1.length : Int))) 28 rfl rfl rfl rfl (by rw [hg_99]; rfl) ?_
  refine lp (b := !decide ((p0_n.2.2.2.1.length : Int) = (p0_n.2.1.length : Int))) 28 rfl rfl rfl rfl (by rw [hg_99]; rfl) ?_
  refine lV (.bool true) (r_pickT (congrArg Value.bool hg_99) rfl) ?_
  refine lN ?_
  exact ⟨col_3, true, hm, hst, h0_0, h0_2, h0_4, h0_6, hb_5, rfl, rfl, rfl, rfl⟩
 rw [if_neg hg_99] at hm
 replace hg_99 := Bool.eq_false_iff.2 hg_99
 refine lg (b := !decide ((p0_n.2.2.2.1.length : Int) = (p0_n.2.1.length : Int))) 28 rfl rfl rfl (by rw [hg_99]; rfl) ?_
 refine lV (.pointer ((some (⟨g_1, 0, none⟩ : Addr)).map (·.add 4))) (rF (sz := 1) (off := 4) Tryz.underlying28 rfl Tryz.sizeOf26 (by decide) rfl rfl ⟨_, _, rfl⟩) ?_
 refine lg (b := !decide ((p0_n.2.2.2.1.length : Int) = (p0_n.2.1.length : Int))) 28 rfl rfl rfl (by rw [hg_99]; rfl) ?_
 refine lV (.slice a0_6 p0_n.2.2.2.2.length cap0_6) (r_ld Tryz.isAgg26 rfl ((hb_5.atN).nth (q := 4) (v := (.slice a0_6 p0_n.2.2.2.2.length cap0_6)) rfl)) ?_
 refine lg (b := !decide ((p0_n.2.2.2.1.length : Int) = (p0_n.2.1.length : Int))) 28 rfl rfl rfl (by rw [hg_99]; rfl) ?_
 refine lV (.int .i64 (p0_n.2.2.2.2.length : Int)) (r_len Tryz.underlying26 rfl) ?_
 refine lg (b := !decide ((p0_n.2.2.2.1.length : Int) = (p0_n.2.1.length : Int))) 28 rfl rfl rfl (by rw [hg_99]; rfl) ?_
 refine lM (.int .i64 (p0_n.2.1.length : Int)) ?_
 refine lg (b := !decide ((p0_n.2.2.2.1.length : Int) = (p0_n.2.1.length : Int))) 28 rfl rfl rfl (by rw [hg_99]; rfl) ?_
 refine lV (.bool (!decide ((p0_n.2.2.2.2.length : Int) = (p0_n.2.1.length : Int)))) (r_neq (p0_n.2.2.2.2.length : Int) (p0_n.2.1.length : Int) rfl rfl) ?_
 refine lV (.bool (!decide ((p0_n.2.2.2.2.length : Int) = (p0_n.2.1.length : Int)))) (r_pickF (congrArg Value.bool hg_99) rfl) ?_
 refine lN ?_
 exact ⟨col_3, (!decide ((p0_n.2.2.2.2.length : Int) = (p0_n.2.1.length : Int))), hm, hst, h0_0, h0_2, h0_4, h0_6, hb_5, rfl, rfl, rfl, rfl⟩
theorem el114_67 : ElemOk Tryz.prog 114 1 4 := ⟨Tryz.t114, _, rfl, rfl, rfl, rfl, rfl⟩
def m_code_one  : Option ((Bool × (List Int)) × (List Int)) :=
  some ((false, [1]), [1])
theorem c_code_one (c1 : Nat) (c2 : Nat) (col : Col) (w0 : World)  (r : ((Bool × (List Int)) × (List Int))) (hm : m_code_one = some r) :
    Calls Tryz.prog 67 #[] w0 (fun e w' => ∃ (col' : Col) (ra1 : Option Addr) (rc2 : Nat) (ra4 : Option Addr) (rc5 : Nat), e = .returned ((.agg #[(.bool r.1.1), (.slice ra1 r.1.2.length rc2), (.slice ra4 r.2.length rc5)])) ∧ Grow col w0 col' w' ∧ Own (Rep.int .u32) 114 c1 col' w' ra1 rc2 r.1.2 ∧ Own (Rep.int .u32) 114 c2 col' w' ra4 rc5 r.2) := by
 refine calls_ofR (m := 5) (args := []) Tryz.func67 rfl rfl rfl ?_
 rw [m_code_one.eq_1] at hm
 have hst := St.start col w0
 refine wS (wR ?_)
 refine l_alloc (col := (col0 col)) (v := (.agg #[(.bool false), (.slice none (([] : List Int).length) 0), (.slice none (([] : List Int).length) 0)])) 1 rfl Tryz.zeroValue40 ?_
 intro g_1 w_2 col_3 hg_4 hb_5
 replace hb_5 : Box 40 1 col_3 w_2 g_1 #[(.bool false), (.slice none (([] : List Int).length) 0), (.slice none (([] : List Int).length) 0)] := hb_5
 refine lN (wS (wR ?_))
 refine l_lit (col := col_3) (r := (Rep.int .u32)) (xs := [1]) [(.int .u32 1)] 2 rfl Tryz.underlying36 el114_67 rfl rfl rfl rfl rfl rfl (by intro v hv; simp only [List.mem_cons, List.not_mem_nil, or_false] at hv; subst hv; rfl) (RowsH.ofF (Rows.consF (r := (Rep.int .u32)) (x := 1) (cs := [(.int .u32 1)]) (rd_int .u32 1) Rows.nil0)) ?_
 intro a_6 w_7 col_8 hg_9 h_10
 refine lV (.agg #[(.bool false), (.slice a_6 ([1].length) 1)]) (r_build (l := [_, _]) (qs := [(0, 1), (1, 1)]) Tryz.underlying38 Tryz.zeroValue38 ⟨rfl, Tryz.sizeOf4, rfl, Tryz.sizeOf36, trivial⟩ rfl) ?_
 refine l_lit (col := col_8) (r := (Rep.int .u32)) (xs := [1]) [(.int .u32 1)] 3 rfl Tryz.underlying36 el114_67 rfl rfl rfl rfl rfl rfl (by intro v hv; simp only [List.mem_cons, List.not_mem_nil, or_false] at hv; subst hv; rfl) (RowsH.ofF (Rows.consF (r := (Rep.int .u32)) (x := 1) (cs := [(.int .u32 1)]) (rd_int .u32 1) Rows.nil0)) ?_
 intro a_11 w_12 col_13 hg_14 h_15
 refine lV (.agg #[(.bool false), (.slice a_6 ([1].length) 1), (.slice a_11 ([1].length) 1)]) (r_build (l := [_, _]) (qs := [(0, 2), (2, 1)]) Tryz.underlying40 Tryz.zeroValue40 ⟨rfl, Tryz.sizeOf38, rfl, Tryz.sizeOf36, trivial⟩ rfl) ?_
 replace hb_5 := (hb_5.gr hg_9).gr hg_14
 refine l_bstore (v := (.agg #[(.bool false), (.slice a_6 ([1].length) 1), (.slice a_11 ([1].length) 1)])) hb_5 Tryz.sizeOf40 rfl rfl (by intro u hu; simp only [Value.cells, List.mem_cons, List.not_mem_nil, or_false] at hu; rcases hu with rfl | rfl | rfl <;> rfl) rfl rfl ?_
 intro w_16 hk_17 hs_18 hb_19
 clear hb_5
 replace hb_19 : Box 40 1 col_13 w_16 g_1 #[(.bool false), (.slice a_6 ([1].length) 1), (.slice a_11 ([1].length) 1)] := hb_19
 refine lN ?_
 refine wret ?_
 cases hm
 replace hst := (((hst.grow hg_4).grow hg_9).grow hg_14).kp hk_17 hs_18
 replace h_10 := (h_10.gr hg_14).kp hk_17
 replace h_15 := h_15.kp hk_17
 exact ⟨rfl, _, res_a rfl rfl Tryz.isAgg40 Tryz.sizeOf40 rfl rfl hb_19.atN, colF w0.heap.size col col_13 (fun n => bif Nat.beq n 2 then c1 else bif Nat.beq n 3 then c2 else 0), a_6, 1, a_11, 1, rfl, hst.fin (fun n => bif Nat.beq n 2 then c1 else bif Nat.beq n 3 then c2 else 0), hst.finOwn (g := (fun n => bif Nat.beq n 2 then c1 else bif Nat.beq n 3 then c2 else 0)) rfl h_10 (by decide) (by decide) rfl, hst.finOwn (g := (fun n => bif Nat.beq n 2 then c1 else bif Nat.beq n 3 then c2 else 0)) rfl h_15 (by decide) (by decide) rfl⟩
def m_whole_Sub (N : Nat) (p0_a : (Bool × (List Int))) (p1_b : (Bool × (List Int))) : Option (Bool × (List Int)) :=
  (m_whole_Add N (p0_a.1, p0_a.2) (!p1_b.1, p1_b.2)).bind fun r_16 => some (r_16.1, r_16.2)
theorem c_whole_Sub (N : Nat) (c1 : Nat) (col : Col) (w0 : World) (a0_0 : Option Addr) (cap0_0 : Nat) (p0_a : (Bool × (List Int))) (a1_0 : Option Addr) (cap1_0 : Nat) (p1_b : (Bool × (List Int))) (h0_0 : Sl (Rep.int .u32) col w0 a0_0 cap0_0 p0_a.2) (h1_0 : Sl (Rep.int .u32) col w0 a1_0 cap1_0 p1_b.2) (r : (Bool × (List Int))) (hm : m_whole_Sub N p0_a p1_b = some r) :
    Calls Tryz.prog 109 #[(.agg #[(.bool p0_a.1), (.slice a0_0 p0_a.2.length cap0_0)]), (.agg #[(.bool p1_b.1), (.slice a1_0 p1_b.2.length cap1_0)])] w0 (fun e w' => ∃ (col' : Col) (ra1 : Option Addr) (rc2 : Nat), e = .returned ((.agg #[(.bool r.1), (.slice ra1 r.2.length rc2)])) ∧ Grow col w0 col' w' ∧ Own (Rep.int .u32) 114 c1 col' w' ra1 rc2 r.2) := by
 refine calls_ofR (m := 13) (args := [(.agg #[(.bool p0_a.1), (.slice a0_0 p0_a.2.length cap0_0)]), (.agg #[(.bool p1_b.1), (.slice a1_0 p1_b.2.length cap1_0)])]) Tryz.func109 rfl rfl rfl ?_
 rw [m_whole_Sub.eq_1] at hm
 have hst := St.start col w0
 refine wS (wR ?_)
 refine l_box (col := (col0 col)) (v := (.agg #[(.bool p0_a.1), (.slice a0_0 p0_a.2.length cap0_0)])) 1 rfl rfl ?_
 intro g_1 w_2 col_3 hg_4 hb_5
 replace hb_5 : Box 38 1 col_3 w_2 g_1 #[(.bool p0_a.1), (.slice a0_0 p0_a.2.length cap0_0)] := hb_5
 refine l_box (col := col_3) (v := (.agg #[(.bool p1_b.1), (.slice a1_0 p1_b.2.length cap1_0)])) 2 rfl rfl ?_
 intro g_6 w_7 col_8 hg_9 hb_10
 replace hb_10 : Box 38 2 col_8 w_7 g_6 #[(.bool p1_b.1), (.slice a1_0 p1_b.2.length cap1_0)] := hb_10
 refine l_alloc (col := col_8) (v := (.agg #[(.bool false), (.slice none (([] : List Int).length) 0)])) 3 rfl Tryz.zeroValue38 ?_
 intro g_11 w_12 col_13 hg_14 hb_15
 replace hb_15 : Box 38 3 col_13 w_12 g_11 #[(.bool false), (.slice none (([] : List Int).length) 0)] := hb_15
 refine lN (wS (wR ?_))
 replace hb_5 := (hb_5.gr hg_9).gr hg_14
 refine lV (.agg #[(.bool p0_a.1), (.slice a0_0 p0_a.2.length cap0_0)]) (r_ldN Tryz.isAgg38 Tryz.sizeOf38 rfl rfl hb_5.atN) ?_
 refine lV (.pointer ((some (⟨g_6, 0, none⟩ : Addr)).map (·.add 0))) (rF (sz := 1) (off := 0) Tryz.underlying38 rfl Tryz.sizeOf4 (by decide) rfl rfl ⟨_, _, rfl⟩) ?_
 replace hb_10 := hb_10.gr hg_14
 refine lV (.bool p1_b.1) (r_ld Tryz.isAgg4 rfl ((hb_10.atN).nth (q := 0) (v := (.bool p1_b.1)) rfl)) ?_
 refine lV (.bool (!p1_b.1)) (r_not p1_b.1 rfl) ?_
 refine lV (.pointer ((some (⟨g_6, 0, none⟩ : Addr)).map (·.add 1))) (rF (sz := 1) (off := 1) Tryz.underlying38 rfl Tryz.sizeOf36 (by decide) rfl rfl ⟨_, _, rfl⟩) ?_
 refine lV (.slice a1_0 p1_b.2.length cap1_0) (r_ld Tryz.isAgg36 rfl ((hb_10.atN).nth (q := 1) (v := (.slice a1_0 p1_b.2.length cap1_0)) rfl)) ?_
 refine lV (.agg #[(.bool (!p1_b.1)), (.slice a1_0 p1_b.2.length cap1_0)]) (r_build (l := [_, _]) (qs := [(0, 1), (1, 1)]) Tryz.underlying38 Tryz.zeroValue38 ⟨rfl, Tryz.sizeOf4, rfl, Tryz.sizeOf36, trivial⟩ rfl) ?_
 obtain ⟨r_16, hr_17, hm⟩ := bS hm
 replace h0_0 := (((h0_0.keep (Stay.start col w0)).gr hg_4).gr hg_9).gr hg_14
 replace h1_0 := (((h1_0.keep (Stay.start col w0)).gr hg_4).gr hg_9).gr hg_14
 refine lc rfl rfl (r_call2 Tryz.call80 rfl rfl) (c_whole_Add N 4 col_13 _ a0_0 cap0_0 (p0_a.1, p0_a.2) a1_0 cap1_0 (!p1_b.1, p1_b.2) h0_0 h1_0 r_16 hr_17) ?_
 rintro _ w_21 ⟨col_23, ra_18, rc_19, rfl, hg_22, rh_20⟩
 refine ⟨_, rfl, ?_⟩
 replace hb_15 := hb_15.gr hg_22
 refine l_bstore (v := (.agg #[(.bool r_16.1), (.slice ra_18 r_16.2.length rc_19)])) hb_15 Tryz.sizeOf38 rfl rfl (by intro u hu; simp only [Value.cells, List.mem_cons, List.not_mem_nil, or_false] at hu; rcases hu with rfl | rfl <;> rfl) rfl rfl ?_
 intro w_24 hk_25 hs_26 hb_27
 clear hb_15
 replace hb_27 : Box 38 3 col_23 w_24 g_11 #[(.bool r_16.1), (.slice ra_18 r_16.2.length rc_19)] := hb_27
 refine lN ?_
 refine wret ?_
 cases hm
 replace hst := ((((hst.grow hg_4).grow hg_9).grow hg_14).grow hg_22).kp hk_25 hs_26
 replace rh_20 := rh_20.kp hk_25
 exact ⟨rfl, _, res_a rfl rfl Tryz.isAgg38 Tryz.sizeOf38 rfl rfl hb_27.atN, colF w0.heap.size col col_23 (fun n => bif Nat.beq n 4 then c1 else 0), ra_18, rc_19, rfl, hst.fin (fun n => bif Nat.beq n 4 then c1 else 0), hst.finOwn (g := (fun n => bif Nat.beq n 4 then c1 else 0)) rfl rh_20 (by decide) (by decide) rfl⟩
def m_frac_Sub (N : Nat) (p0_a : ((Bool × (List Int)) × (List Int))) (p1_b : ((Bool × (List Int)) × (List Int))) : Option ((Bool × (List Int)) × (List Int)) :=
  (m_frac_under N ((p1_b.1.1, p1_b.1.2), p1_b.2)).bind fun r_18 => (m_frac_over N (p0_a.1.1, p0_a.1.2) r_18).bind fun r_28 => (m_frac_under N ((p0_a.1.1, p0_a.1.2), p0_a.2)).bind fun r_39 => (m_frac_over N (p1_b.1.1, p1_b.1.2) r_39).bind fun r_49 => (m_whole_Sub N (r_28.1, r_28.2) (r_49.1, r_49.2)).bind fun r_60 => (m_frac_under N ((p0_a.1.1, p0_a.1.2), p0_a.2)).bind fun r_82 => (m_frac_under N ((p1_b.1.1, p1_b.1.2), p1_b.2)).bind fun r_91 => (m_nat_Mul N r_82 r_91).bind fun r_100 => (m_frac_lowest N r_60.1 r_60.2 r_100).bind fun r_110 => some ((r_110.1.1, r_110.1.2), r_110.2)
theorem c_frac_Sub (N : Nat) (c1 : Nat) (c2 : Nat) (col : Col) (w0 : World) (a0_0 : Option Addr) (cap0_0 : Nat) (a0_2 : Option Addr) (cap0_2 : Nat) (p0_a : ((Bool × (List Int)) × (List Int))) (a1_0 : Option Addr) (cap1_0 : Nat) (a1_2 : Option Addr) (cap1_2 : Nat) (p1_b : ((Bool × (List Int)) × (List Int))) (h0_0 : Sl (Rep.int .u32) col w0 a0_0 cap0_0 p0_a.1.2) (h0_2 : Sl (Rep.int .u32) col w0 a0_2 cap0_2 p0_a.2) (h1_0 : Sl (Rep.int .u32) col w0 a1_0 cap1_0 p1_b.1.2) (h1_2 : Sl (Rep.int .u32) col w0 a1_2 cap1_2 p1_b.2) (r : ((Bool × (List Int)) × (List Int))) (hm : m_frac_Sub N p0_a p1_b = some r) :
    Calls Tryz.prog 61 #[(.agg #[(.bool p0_a.1.1), (.slice a0_0 p0_a.1.2.length cap0_0), (.slice a0_2 p0_a.2.length cap0_2)]), (.agg #[(.bool p1_b.1.1), (.slice a1_0 p1_b.1.2.length cap1_0), (.slice a1_2 p1_b.2.length cap1_2)])] w0 (fun e w' => ∃ (col' : Col) (ra1 : Option Addr) (rc2 : Nat) (ra4 : Option Addr) (rc5 : Nat), e = .returned ((.agg #[(.bool r.1.1), (.slice ra1 r.1.2.length rc2), (.slice ra4 r.2.length rc5)])) ∧ Grow col w0 col' w' ∧ Own (Rep.int .u32) 114 c1 col' w' ra1 rc2 r.1.2 ∧ Own (Rep.int .u32) 114 c2 col' w' ra4 rc5 r.2) := by
 refine calls_ofR (m := 27) (args := [(.agg #[(.bool p0_a.1.1), (.slice a0_0 p0_a.1.2.length cap0_0), (.slice a0_2 p0_a.2.length cap0_2)]), (.agg #[(.bool p1_b.1.1), (.slice a1_0 p1_b.1.2.length cap1_0), (.slice a1_2 p1_b.2.length cap1_2)])]) Tryz.func61 rfl rfl rfl ?_
 rw [m_frac_Sub.eq_1] at hm
 have hst := St.start col w0
 refine wS (wR ?_)
 refine l_box (col := (col0 col)) (v := (.agg #[(.bool p0_a.1.1), (.slice a0_0 p0_a.1.2.length cap0_0), (.slice a0_2 p0_a.2.length cap0_2)])) 1 rfl rfl ?_
 intro g_1 w_2 col_3 hg_4 hb_5
 replace hb_5 : Box 40 1 col_3 w_2 g_1 #[(.bool p0_a.1.1), (.slice a0_0 p0_a.1.2.length cap0_0), (.slice a0_2 p0_a.2.length cap0_2)] := hb_5
 refine l_box (col := col_3) (v := (.agg #[(.bool p1_b.1.1), (.slice a1_0 p1_b.1.2.length cap1_0), (.slice a1_2 p1_b.2.length cap1_2)])) 2 rfl rfl ?_
 intro g_6 w_7 col_8 hg_9 hb_10
 replace hb_10 : Box 40 2 col_8 w_7 g_6 #[(.bool p1_b.1.1), (.slice a1_0 p1_b.1.2.length cap1_0), (.slice a1_2 p1_b.2.length cap1_2)] := hb_10
 refine l_alloc (col := col_8) (v := (.agg #[(.bool false), (.slice none (([] : List Int).length) 0), (.slice none (([] : List Int).length) 0)])) 3 rfl Tryz.zeroValue40 ?_
 intro g_11 w_12 col_13 hg_14 hb_15
 replace hb_15 : Box 40 3 col_13 w_12 g_11 #[(.bool false), (.slice none (([] : List Int).length) 0), (.slice none (([] : List Int).length) 0)] := hb_15
 refine lN (wS ?_)
 have hk_16 := KeepP.clip (fun _ => false) col_13 w_12
 refine wmixF (col := col_13) [(0, 1), (1, 0), (2, 0), (5, 1), (6, 0), (7, 0), (3, 3), (4, 3), (8, 3), (9, 3), (10, 3), (11, 4), (12, 2)] (by kernel_rfl) (by kernel_rfl) ⟨fun h => absurd h (by decide), fun h => absurd h (by decide), fun h => absurd h (by decide), fun h => absurd h (by decide), fun h => absurd h (by decide), fun h => absurd h (by decide), fun h => absurd h (by decide), fun h => absurd h (by decide), fun h => absurd h (by decide), fun h => absurd h (by decide), fun h => absurd h (by decide), fun _ => ⟨_, _, _, rfl, free_alloc Tryz.zeroValue38⟩, fun h => absurd h (by decide), trivial⟩ ?_
 refine xuF (v := (.pointer ((some (⟨g_1, 0, none⟩ : Addr)).map (·.add 0)))) rfl rfl (fun _ => rF (sz := 2) (off := 0) Tryz.underlying40 rfl Tryz.sizeOf38 (by decide) rfl rfl ⟨_, _, rfl⟩) ?_
 replace hb_5 := ((hb_5.gr hg_9).gr hg_14).kpp hk_16
 refine xvF (v := (.agg #[(.bool p0_a.1.1), (.slice a0_0 p0_a.1.2.length cap0_0)])) rfl rfl (fun _ hC => r_ldN Tryz.isAgg38 Tryz.sizeOf38 rfl rfl (((hb_5.atN).part 0 2 _ rfl).gr (Grow.of_below (col := (clipC w_12 col_13)) hC.below))) ?_
 replace hb_10 := (hb_10.gr hg_14).kpp hk_16
 refine xvF (v := (.agg #[(.bool p1_b.1.1), (.slice a1_0 p1_b.1.2.length cap1_0), (.slice a1_2 p1_b.2.length cap1_2)])) rfl rfl (fun _ hC => r_ldN Tryz.isAgg40 Tryz.sizeOf40 rfl rfl (hb_10.atN.gr (Grow.of_below (col := (clipC w_12 col_13)) hC.below))) ?_
 refine xuF (v := (.pointer ((some (⟨g_6, 0, none⟩ : Addr)).map (·.add 0)))) rfl rfl (fun _ => rF (sz := 2) (off := 0) Tryz.underlying40 rfl Tryz.sizeOf38 (by decide) rfl rfl ⟨_, _, rfl⟩) ?_
 refine xvF (v := (.agg #[(.bool p1_b.1.1), (.slice a1_0 p1_b.1.2.length cap1_0)])) rfl rfl (fun _ hC => r_ldN Tryz.isAgg38 Tryz.sizeOf38 rfl rfl (((hb_10.atN).part 0 2 _ rfl).gr (Grow.of_below (col := (clipC w_12 col_13)) hC.below))) ?_
 refine xvF (v := (.agg #[(.bool p0_a.1.1), (.slice a0_0 p0_a.1.2.length cap0_0), (.slice a0_2 p0_a.2.length cap0_2)])) rfl rfl (fun _ hC => r_ldN Tryz.isAgg40 Tryz.sizeOf40 rfl rfl (hb_5.atN.gr (Grow.of_below (col := (clipC w_12 col_13)) hC.below))) ?_
 refine xeF rfl rfl ?_
 intro w_17 hC0
 have hC : Grow (clipC w_12 col_13) w_12 (clipC w_12 col_13) w_17 := .of_below hC0.below
 obtain ⟨r_18, hr_19, hm⟩ := bS hm
 replace h1_0 := (((((h1_0.keep (Stay.start col w0)).gr hg_4).gr hg_9).gr hg_14).kpp hk_16).gr hC
 replace h1_2 := (((((h1_2.keep (Stay.start col w0)).gr hg_4).gr hg_9).gr hg_14).kpp hk_16).gr hC
 refine lc rfl rfl (r_call1 Tryz.call56 rfl) (c_frac_under N 4 (clipC w_12 col_13) _ a1_0 cap1_0 a1_2 cap1_2 ((p1_b.1.1, p1_b.1.2), p1_b.2) h1_0 h1_2 r_18 hr_19) ?_
 rintro _ w_23 ⟨col_25, ra_20, rc_21, rfl, hg_24, rh_22⟩
 refine ⟨_, rfl, ?_⟩
 refine lN ⟨fun w' => Grow (clipC w_23 col_25) w_23 (clipC w_23 col_25) w', fun g => (clipC w_23 col_25) g = 497, Grow.refl _ _, good_clip, fun _ => ⟨fun _ h => cls hC0 hg_24 h, fun b hb => hg_24.below.block b hb, fun g h1 h2 => fcl hg_24 g h1 (by first | exact h2 | (simp only [frC, rcC, h2]; rfl))⟩, ?_⟩
 have hk_26 := KeepP.clip (fun _ => false) col_25 w_23
 refine xeF rfl rfl ?_
 intro w_27 hC0
 replace h0_0 := (((((((h0_0.keep (Stay.start col w0)).gr hg_4).gr hg_9).gr hg_14).kpp hk_16).gr hC).gr hg_24).kpp hk_26
 replace h0_2 := (((((((h0_2.keep (Stay.start col w0)).gr hg_4).gr hg_9).gr hg_14).kpp hk_16).gr hC).gr hg_24).kpp hk_26
 replace hst := ((((((hst.grow hg_4).grow hg_9).grow hg_14).kpp hk_16).grow hC).grow hg_24).kpp hk_26
 replace hb_15 := (((hb_15.kpp hk_16).gr hC).gr hg_24).kpp hk_26
 replace hb_5 := ((hb_5.gr hC).gr hg_24).kpp hk_26
 replace hb_10 := ((hb_10.gr hC).gr hg_24).kpp hk_26
 have hC : Grow (clipC w_23 col_25) w_23 (clipC w_23 col_25) w_27 := .of_below hC0.below
 obtain ⟨r_28, hr_29, hm⟩ := bS hm
 replace rh_22 := (rh_22.kpp hk_26).gr hC
 replace h0_0 := h0_0.gr hC
 refine lc rfl rfl (r_call2 Tryz.call81 rfl rfl) (c_frac_over N 5 (frC 4 (clipC w_23 col_25)) _ a0_0 cap0_0 (p0_a.1.1, p0_a.1.2) ra_20 rc_21 r_18 (h0_0.froz 4) (rh_22.toSlF (Froz.int .u32)) r_28 hr_29) ?_
 rintro _ w_33 ⟨col_35, ra_30, rc_31, rfl, hg_34, rh_32⟩
 refine ⟨_, rfl, ?_⟩
 replace rh_32 := rh_32.thaw (flat_int .u32) hg_34 ((Fz.refl (col := (clipC w_23 col_25))).froz 4) (by decide)
 replace hg_34 := hg_34.thawR (col := (clipC w_23 col_25))
 generalize colR w_27.heap.size (clipC w_23 col_25) col_35 = col_36 at *
 refine lN ⟨fun w' => Grow (clipC w_33 col_36) w_33 (clipC w_33 col_36) w', fun g => (clipC w_33 col_36) g = 497, Grow.refl _ _, good_clip, fun _ => ⟨fun _ h => cls hC0 hg_34 h, fun b hb => hg_34.below.block b hb, fun g h1 h2 => fcl hg_34 g h1 (by first | exact h2 | (simp only [frC, rcC, h2]; rfl))⟩, ?_⟩
 have hk_37 := KeepP.clip (fun _ => false) col_36 w_33
 refine xeF rfl rfl ?_
 intro w_38 hC0
 replace h1_0 := ((((h1_0.gr hg_24).kpp hk_26).gr hC).gr hg_34).kpp hk_37
 replace h1_2 := ((((h1_2.gr hg_24).kpp hk_26).gr hC).gr hg_34).kpp hk_37
 replace h0_2 := ((h0_2.gr hC).gr hg_34).kpp hk_37
 replace hb_5 := ((hb_5.gr hC).gr hg_34).kpp hk_37
 replace hb_10 := ((hb_10.gr hC).gr hg_34).kpp hk_37
 replace hb_15 := ((hb_15.gr hC).gr hg_34).kpp hk_37
 replace hst := ((hst.grow hC).grow hg_34).kpp hk_37
 have hC : Grow (clipC w_33 col_36) w_33 (clipC w_33 col_36) w_38 := .of_below hC0.below
 obtain ⟨r_39, hr_40, hm⟩ := bS hm
 replace h0_0 := ((h0_0.gr hg_34).kpp hk_37).gr hC
 replace h0_2 := h0_2.gr hC
 refine lc rfl rfl (r_call1 Tryz.call56 rfl) (c_frac_under N 6 (clipC w_33 col_36) _ a0_0 cap0_0 a0_2 cap0_2 ((p0_a.1.1, p0_a.1.2), p0_a.2) h0_0 h0_2 r_39 hr_40) ?_
 rintro _ w_44 ⟨col_46, ra_41, rc_42, rfl, hg_45, rh_43⟩
 refine ⟨_, rfl, ?_⟩
 refine lN ⟨fun w' => Grow (clipC w_44 col_46) w_44 (clipC w_44 col_46) w', fun g => (clipC w_44 col_46) g = 497, Grow.refl _ _, good_clip, fun _ => ⟨fun _ h => cls hC0 hg_45 h, fun b hb => hg_45.below.block b hb, fun g h1 h2 => fcl hg_45 g h1 (by first | exact h2 | (simp only [frC, rcC, h2]; rfl))⟩, ?_⟩
 have hk_47 := KeepP.clip (fun _ => false) col_46 w_44
 refine xeF rfl rfl ?_
 intro w_48 hC0
 replace rh_32 := (((rh_32.kpp hk_37).gr hC).gr hg_45).kpp hk_47
 replace h1_0 := ((h1_0.gr hC).gr hg_45).kpp hk_47
 replace h1_2 := ((h1_2.gr hC).gr hg_45).kpp hk_47
 replace hb_5 := ((hb_5.gr hC).gr hg_45).kpp hk_47
 replace hb_10 := ((hb_10.gr hC).gr hg_45).kpp hk_47
 replace hb_15 := ((hb_15.gr hC).gr hg_45).kpp hk_47
 replace hst := ((hst.grow hC).grow hg_45).kpp hk_47
 have hC : Grow (clipC w_44 col_46) w_44 (clipC w_44 col_46) w_48 := .of_below hC0.below
 obtain ⟨r_49, hr_50, hm⟩ := bS hm
 replace rh_43 := (rh_43.kpp hk_47).gr hC
 replace h1_0 := h1_0.gr hC
 refine lc rfl rfl (r_call2 Tryz.call81 rfl rfl) (c_frac_over N 7 (frC 6 (clipC w_44 col_46)) _ a1_0 cap1_0 (p1_b.1.1, p1_b.1.2) ra_41 rc_42 r_39 (h1_0.froz 6) (rh_43.toSlF (Froz.int .u32)) r_49 hr_50) ?_
 rintro _ w_54 ⟨col_56, ra_51, rc_52, rfl, hg_55, rh_53⟩
 refine ⟨_, rfl, ?_⟩
 replace rh_53 := rh_53.thaw (flat_int .u32) hg_55 ((Fz.refl (col := (clipC w_44 col_46))).froz 6) (by decide)
 replace hg_55 := hg_55.thawR (col := (clipC w_44 col_46))
 generalize colR w_48.heap.size (clipC w_44 col_46) col_56 = col_57 at *
 refine lN ⟨fun w' => Grow (clipC w_54 col_57) w_54 (clipC w_54 col_57) w', fun g => (clipC w_54 col_57) g = 497, Grow.refl _ _, good_clip, fun _ => ⟨fun _ h => cls hC0 hg_55 h, fun b hb => hg_55.below.block b hb, fun g h1 h2 => fcl hg_55 g h1 (by first | exact h2 | (simp only [frC, rcC, h2]; rfl))⟩, ?_⟩
 have hk_58 := KeepP.clip (fun _ => false) col_57 w_54
 refine xeF rfl rfl ?_
 intro w_59 hC0
 replace h0_0 := ((((h0_0.gr hg_45).kpp hk_47).gr hC).gr hg_55).kpp hk_58
 replace h0_2 := ((((h0_2.gr hg_45).kpp hk_47).gr hC).gr hg_55).kpp hk_58
 replace h1_2 := ((h1_2.gr hC).gr hg_55).kpp hk_58
 replace rh_32 := ((rh_32.gr hC).gr hg_55).kpp hk_58
 replace hb_5 := ((hb_5.gr hC).gr hg_55).kpp hk_58
 replace hb_10 := ((hb_10.gr hC).gr hg_55).kpp hk_58
 replace hb_15 := ((hb_15.gr hC).gr hg_55).kpp hk_58
 replace hst := ((hst.grow hC).grow hg_55).kpp hk_58
 have hC : Grow (clipC w_54 col_57) w_54 (clipC w_54 col_57) w_59 := .of_below hC0.below
 obtain ⟨r_60, hr_61, hm⟩ := bS hm
 replace rh_53 := (rh_53.kpp hk_58).gr hC
 replace rh_32 := rh_32.gr hC
 refine lc rfl rfl (r_call2 Tryz.call109 rfl rfl) (c_whole_Sub N 8 (frC 7 (frC 5 (clipC w_54 col_57))) _ ra_30 rc_31 (r_28.1, r_28.2) ra_51 rc_52 (r_49.1, r_49.2) ((rh_32.toSlF (Froz.int .u32)).froz 7) ((rh_53.froz 5 (by decide)).toSlF (Froz.int .u32)) r_60 hr_61) ?_
 rintro _ w_65 ⟨col_67, ra_62, rc_63, rfl, hg_66, rh_64⟩
 refine ⟨_, rfl, ?_⟩
 replace rh_64 := rh_64.thaw (flat_int .u32) hg_66 (((Fz.refl (col := (clipC w_54 col_57))).froz 5).froz 7) (by decide)
 replace hg_66 := hg_66.thawR (col := (clipC w_54 col_57))
 generalize colR w_59.heap.size (clipC w_54 col_57) col_67 = col_68 at *
 refine lN ⟨fun w' => Grow (clipC w_65 col_68) w_65 (clipC w_65 col_68) w', fun g => (clipC w_65 col_68) g = 497, Grow.refl _ _, good_clip, fun _ => ⟨fun _ h => cls hC0 hg_66 h, fun b hb => hg_66.below.block b hb, fun g h1 h2 => fcl hg_66 g h1 (by first | exact h2 | (simp only [frC, rcC, h2]; rfl))⟩, ?_⟩
 have hk_69 := KeepP.clip (fun _ => false) col_68 w_65
 refine xaF rfl rfl (free_alloc Tryz.zeroValue38) ?_
 intro g_70 hF_71
 refine xeF rfl rfl ?_
 intro w_72 ⟨hC0, hZ0⟩
 replace h1_0 := ((((h1_0.gr hg_55).kpp hk_58).gr hC).gr hg_66).kpp hk_69
 replace h0_0 := ((h0_0.gr hC).gr hg_66).kpp hk_69
 replace h0_2 := ((h0_2.gr hC).gr hg_66).kpp hk_69
 replace h1_2 := ((h1_2.gr hC).gr hg_66).kpp hk_69
 replace hb_5 := ((hb_5.gr hC).gr hg_66).kpp hk_69
 replace hb_10 := ((hb_10.gr hC).gr hg_66).kpp hk_69
 replace hb_15 := ((hb_15.gr hC).gr hg_66).kpp hk_69
 replace hst := ((hst.grow hC).grow hg_66).kpp hk_69
 have hC : Grow (clipC w_65 col_68) w_65 (clipC w_65 col_68) w_72 := .of_below hC0.below
 obtain ⟨hk_74, hb_73⟩ := box_float (col := (clipC w_65 col_68)) 9 hZ0 hF_71
 replace hb_73 : Box 38 9 (setC g_70 9 (clipC w_65 col_68)) w_72 g_70 #[(.bool false), (.slice none (([] : List Int).length) 0)] := hb_73
 refine l_bstore (v := (.agg #[(.bool r_60.1), (.slice ra_62 r_60.2.length rc_63)])) hb_73 Tryz.sizeOf38 rfl rfl (by intro u hu; simp only [Value.cells, List.mem_cons, List.not_mem_nil, or_false] at hu; rcases hu with rfl | rfl <;> rfl) rfl rfl ?_
 intro w_75 hk_76 hs_77 hb_78
 clear hb_73
 replace hb_78 : Box 38 9 (setC g_70 9 (clipC w_65 col_68)) w_75 g_70 #[(.bool r_60.1), (.slice ra_62 r_60.2.length rc_63)] := hb_78
 refine lN ⟨fun w' => Grow (clipC w_75 (setC g_70 9 (clipC w_65 col_68))) w_75 (clipC w_75 (setC g_70 9 (clipC w_65 col_68))) w', fun g => (clipC w_75 (setC g_70 9 (clipC w_65 col_68))) g = 497, Grow.refl _ _, good_clip, fun h => absurd h (by decide), ?_⟩
 have hk_79 := KeepP.clip (fun _ => false) (setC g_70 9 (clipC w_65 col_68)) w_75
 refine xnilF ?_
 replace rh_64 := ((((rh_64.kpp hk_69).gr hC).kpp hk_74).kp hk_76).kpp hk_79
 replace h0_0 := (((h0_0.gr hC).kpp hk_74).kp hk_76).kpp hk_79
 replace h0_2 := (((h0_2.gr hC).kpp hk_74).kp hk_76).kpp hk_79
 replace h1_0 := (((h1_0.gr hC).kpp hk_74).kp hk_76).kpp hk_79
 replace h1_2 := (((h1_2.gr hC).kpp hk_74).kp hk_76).kpp hk_79
 replace hb_5 := (((hb_5.gr hC).kpp hk_74).kp hk_76).kpp hk_79
 replace hb_10 := (((hb_10.gr hC).kpp hk_74).kp hk_76).kpp hk_79
 replace hb_15 := (((hb_15.gr hC).kpp hk_74).kp hk_76).kpp hk_79
 replace hst := (((hst.grow hC).kpp hk_74).kp hk_76 hs_77).kpp hk_79
 intro w_80 hC
 replace hC : Grow (clipC w_75 (setC g_70 9 (clipC w_65 col_68))) w_75 (clipC w_75 (setC g_70 9 (clipC w_65 col_68))) w_80 := .of_below hC.below
 refine wS ?_
 refine wmix (col := (clipC w_75 (setC g_70 9 (clipC w_65 col_68)))) [(0, 1), (1, 0), (2, 1), (3, 0), (4, 0), (6, 0), (5, 3), (7, 3), (8, 3), (9, 3), (10, 2)] (by kernel_rfl) (by kernel_rfl) ?_
 refine xu (v := (.pointer ((some (⟨g_70, 0, none⟩ : Addr)).map (·.add 0)))) rfl rfl (fun _ => rF (sz := 1) (off := 0) Tryz.underlying38 rfl Tryz.sizeOf4 (by decide) rfl rfl ⟨_, _, rfl⟩) ?_
 replace hb_78 := (hb_78.kpp hk_79).gr hC
 refine xv (v := (.bool r_60.1)) rfl rfl (fun _ hC => r_ld Tryz.isAgg4 rfl (((hb_78.atN).nth (q := 0) (v := (.bool r_60.1)) rfl).gr (Grow.of_below (col := (clipC w_75 (setC g_70 9 (clipC w_65 col_68)))) hC.below))) ?_
 refine xu (v := (.pointer ((some (⟨g_70, 0, none⟩ : Addr)).map (·.add 1)))) rfl rfl (fun _ => rF (sz := 1) (off := 1) Tryz.underlying38 rfl Tryz.sizeOf36 (by decide) rfl rfl ⟨_, _, rfl⟩) ?_
 refine xv (v := (.slice ra_62 r_60.2.length rc_63)) rfl rfl (fun _ hC => r_ld Tryz.isAgg36 rfl (((hb_78.atN).nth (q := 1) (v := (.slice ra_62 r_60.2.length rc_63)) rfl).gr (Grow.of_below (col := (clipC w_75 (setC g_70 9 (clipC w_65 col_68)))) hC.below))) ?_
 replace hb_5 := hb_5.gr hC
 refine xv (v := (.agg #[(.bool p0_a.1.1), (.slice a0_0 p0_a.1.2.length cap0_0), (.slice a0_2 p0_a.2.length cap0_2)])) rfl rfl (fun _ hC => r_ldN Tryz.isAgg40 Tryz.sizeOf40 rfl rfl (hb_5.atN.gr (Grow.of_below (col := (clipC w_75 (setC g_70 9 (clipC w_65 col_68)))) hC.below))) ?_
 replace hb_10 := hb_10.gr hC
 refine xv (v := (.agg #[(.bool p1_b.1.1), (.slice a1_0 p1_b.1.2.length cap1_0), (.slice a1_2 p1_b.2.length cap1_2)])) rfl rfl (fun _ hC => r_ldN Tryz.isAgg40 Tryz.sizeOf40 rfl rfl (hb_10.atN.gr (Grow.of_below (col := (clipC w_75 (setC g_70 9 (clipC w_65 col_68)))) hC.below))) ?_
 refine xe rfl rfl ?_
 intro w_81 hC0
 replace h0_0 := h0_0.gr hC
 replace h0_2 := h0_2.gr hC
 replace h1_0 := h1_0.gr hC
 replace h1_2 := h1_2.gr hC
 replace rh_64 := rh_64.gr hC
 replace hb_15 := hb_15.gr hC
 replace hst := hst.grow hC
 have hC : Grow (clipC w_75 (setC g_70 9 (clipC w_65 col_68))) w_80 (clipC w_75 (setC g_70 9 (clipC w_65 col_68))) w_81 := .of_below hC0.below
 obtain ⟨r_82, hr_83, hm⟩ := bS hm
 replace h0_0 := h0_0.gr hC
 replace h0_2 := h0_2.gr hC
 refine lc rfl rfl (r_call1 Tryz.call56 rfl) (c_frac_under N 10 (clipC w_75 (setC g_70 9 (clipC w_65 col_68))) _ a0_0 cap0_0 a0_2 cap0_2 ((p0_a.1.1, p0_a.1.2), p0_a.2) h0_0 h0_2 r_82 hr_83) ?_
 rintro _ w_87 ⟨col_89, ra_84, rc_85, rfl, hg_88, rh_86⟩
 refine ⟨_, rfl, ?_⟩
 refine lN ⟨fun w' => Grow col_89 w_87 col_89 w', Grow.refl _ _, fun _ _ h => cls hC0 hg_88 h, ?_⟩
 refine xe rfl rfl ?_
 intro w_90 hC0
 replace rh_64 := (rh_64.gr hC).gr hg_88
 replace h1_0 := (h1_0.gr hC).gr hg_88
 replace h1_2 := (h1_2.gr hC).gr hg_88
 replace hb_15 := (hb_15.gr hC).gr hg_88
 replace hst := (hst.grow hC).grow hg_88
 have hC : Grow col_89 w_87 col_89 w_90 := .of_below hC0.below
 obtain ⟨r_91, hr_92, hm⟩ := bS hm
 replace h1_0 := h1_0.gr hC
 replace h1_2 := h1_2.gr hC
 refine lc rfl rfl (r_call1 Tryz.call56 rfl) (c_frac_under N 11 col_89 _ a1_0 cap1_0 a1_2 cap1_2 ((p1_b.1.1, p1_b.1.2), p1_b.2) h1_0 h1_2 r_91 hr_92) ?_
 rintro _ w_96 ⟨col_98, ra_93, rc_94, rfl, hg_97, rh_95⟩
 refine ⟨_, rfl, ?_⟩
 refine lN ⟨fun w' => Grow col_98 w_96 col_98 w', Grow.refl _ _, fun _ _ h => cls hC0 hg_97 h, ?_⟩
 refine xe rfl rfl ?_
 intro w_99 hC0
 replace rh_64 := (rh_64.gr hC).gr hg_97
 replace rh_86 := (rh_86.gr hC).gr hg_97
 replace hb_15 := (hb_15.gr hC).gr hg_97
 replace hst := (hst.grow hC).grow hg_97
 have hC : Grow col_98 w_96 col_98 w_99 := .of_below hC0.below
 obtain ⟨r_100, hr_101, hm⟩ := bS hm
 replace rh_86 := rh_86.gr hC
 replace rh_95 := rh_95.gr hC
 refine lc rfl rfl (r_call2 Tryz.call40 rfl rfl) (c_nat_Mul N 12 (frC 11 (frC 10 col_98)) _ ra_84 rc_85 r_82 ra_93 rc_94 r_91 ((rh_86.toSlF (Froz.int .u32)).froz 11) ((rh_95.froz 10 (by decide)).toSlF (Froz.int .u32)) r_100 hr_101) ?_
 rintro _ w_105 ⟨col_107, ra_102, rc_103, rfl, hg_106, rh_104⟩
 refine ⟨_, rfl, ?_⟩
 replace rh_104 := rh_104.thaw (flat_int .u32) hg_106 (((Fz.refl (col := col_98)).froz 10).froz 11) (by decide)
 replace hg_106 := hg_106.thawR (col := col_98)
 generalize colR w_99.heap.size col_98 col_107 = col_108 at *
 refine lN ⟨fun w' => Grow col_108 w_105 col_108 w', Grow.refl _ _, fun _ _ h => cls hC0 hg_106 h, ?_⟩
 refine xe rfl rfl ?_
 intro w_109 hC0
 replace rh_64 := (rh_64.gr hC).gr hg_106
 replace hb_15 := (hb_15.gr hC).gr hg_106
 replace hst := (hst.grow hC).grow hg_106
 have hC : Grow col_108 w_105 col_108 w_109 := .of_below hC0.below
 obtain ⟨r_110, hr_111, hm⟩ := bS hm
 replace rh_64 := rh_64.gr hC
 replace rh_104 := rh_104.gr hC
 refine lc rfl rfl (r_call3 Tryz.call55 rfl rfl rfl) (c_frac_lowest N 13 14 (frC 12 (frC 8 col_108)) _ r_60.1 ra_62 rc_63 r_60.2 ra_102 rc_103 r_100 ((rh_64.toSlF (Froz.int .u32)).froz 12) ((rh_104.froz 8 (by decide)).toSlF (Froz.int .u32)) r_110 hr_111) ?_
 rintro _ w_118 ⟨col_120, ra_112, rc_113, ra_115, rc_116, rfl, hg_119, rh_114, rh_117⟩
 refine ⟨_, rfl, ?_⟩
 replace rh_114 := rh_114.thaw (flat_int .u32) hg_119 (((Fz.refl (col := col_108)).froz 8).froz 12) (by decide)
 replace rh_117 := rh_117.thaw (flat_int .u32) hg_119 (((Fz.refl (col := col_108)).froz 8).froz 12) (by decide)
 replace hg_119 := hg_119.thawR (col := col_108)
 generalize colR w_109.heap.size col_108 col_120 = col_121 at *
 refine lN ⟨fun w' => Grow col_121 w_118 col_121 w', Grow.refl _ _, fun _ _ h => cls hC0 hg_119 h, ?_⟩
 refine xe rfl rfl ?_
 intro w_122 hC0
 replace hb_15 := (hb_15.gr hC).gr hg_119
 replace hst := (hst.grow hC).grow hg_119
 have hC : Grow col_121 w_118 col_121 w_122 := .of_below hC0.below
 replace hb_15 := hb_15.gr hC
 refine l_bstore (v := (.agg #[(.bool r_110.1.1), (.slice ra_112 r_110.1.2.length rc_113), (.slice ra_115 r_110.2.length rc_116)])) hb_15 Tryz.sizeOf40 rfl rfl (by intro u hu; simp only [Value.cells, List.mem_cons, List.not_mem_nil, or_false] at hu; rcases hu with rfl | rfl | rfl <;> rfl) rfl rfl ?_
 intro w_123 hk_124 hs_125 hb_126
 clear hb_15
 replace hb_126 : Box 40 3 col_121 w_123 g_11 #[(.bool r_110.1.1), (.slice ra_112 r_110.1.2.length rc_113), (.slice ra_115 r_110.2.length rc_116)] := hb_126
 refine lN ⟨fun w' => Grow col_121 w_123 col_121 w', Grow.refl _ _, fun h => absurd h (by decide), ?_⟩
 refine xnil ?_
 replace rh_114 := (rh_114.gr hC).kp hk_124
 replace rh_117 := (rh_117.gr hC).kp hk_124
 replace hst := (hst.grow hC).kp hk_124 hs_125
 intro w_127 hC
 replace hC : Grow col_121 w_123 col_121 w_127 := .of_below hC.below
 refine wret ?_
 cases hm
 replace rh_114 := rh_114.gr hC
 replace rh_117 := rh_117.gr hC
 replace hb_126 := hb_126.gr hC
 replace hst := hst.grow hC
 exact ⟨rfl, _, res_a rfl rfl Tryz.isAgg40 Tryz.sizeOf40 rfl rfl hb_126.atN, colF w0.heap.size col col_121 (fun n => bif Nat.beq n 13 then c1 else bif Nat.beq n 14 then c2 else 0), ra_112, rc_113, ra_115, rc_116, rfl, hst.fin (fun n => bif Nat.beq n 13 then c1 else bif Nat.beq n 14 then c2 else 0), hst.finOwn (g := (fun n => bif Nat.beq n 13 then c1 else bif Nat.beq n 14 then c2 else 0)) rfl rh_114 (by decide) (by decide) rfl, hst.finOwn (g := (fun n => bif Nat.beq n 13 then c1 else bif Nat.beq n 14 then c2 else 0)) rfl rh_117 (by decide) (by decide) rfl⟩
def m_frac_Mul (N : Nat) (p0_a : ((Bool × (List Int)) × (List Int))) (p1_b : ((Bool × (List Int)) × (List Int))) : Option ((Bool × (List Int)) × (List Int)) :=
  (m_nat_Mul N p0_a.1.2 p1_b.1.2).bind fun r_17 => (m_frac_under N ((p0_a.1.1, p0_a.1.2), p0_a.2)).bind fun r_26 => (m_frac_under N ((p1_b.1.1, p1_b.1.2), p1_b.2)).bind fun r_35 => (m_nat_Mul N r_26 r_35).bind fun r_44 => (m_frac_lowest N (!decide (p0_a.1.1 = p1_b.1.1)) r_17 r_44).bind fun r_54 => some ((r_54.1.1, r_54.1.2), r_54.2)
theorem c_frac_Mul (N : Nat) (c1 : Nat) (c2 : Nat) (col : Col) (w0 : World) (a0_0 : Option Addr) (cap0_0 : Nat) (a0_2 : Option Addr) (cap0_2 : Nat) (p0_a : ((Bool × (List Int)) × (List Int))) (a1_0 : Option Addr) (cap1_0 : Nat) (a1_2 : Option Addr) (cap1_2 : Nat) (p1_b : ((Bool × (List Int)) × (List Int))) (h0_0 : Sl (Rep.int .u32) col w0 a0_0 cap0_0 p0_a.1.2) (h0_2 : Sl (Rep.int .u32) col w0 a0_2 cap0_2 p0_a.2) (h1_0 : Sl (Rep.int .u32) col w0 a1_0 cap1_0 p1_b.1.2) (h1_2 : Sl (Rep.int .u32) col w0 a1_2 cap1_2 p1_b.2) (r : ((Bool × (List Int)) × (List Int))) (hm : m_frac_Mul N p0_a p1_b = some r) :
    Calls Tryz.prog 35 #[(.agg #[(.bool p0_a.1.1), (.slice a0_0 p0_a.1.2.length cap0_0), (.slice a0_2 p0_a.2.length cap0_2)]), (.agg #[(.bool p1_b.1.1), (.slice a1_0 p1_b.1.2.length cap1_0), (.slice a1_2 p1_b.2.length cap1_2)])] w0 (fun e w' => ∃ (col' : Col) (ra1 : Option Addr) (rc2 : Nat) (ra4 : Option Addr) (rc5 : Nat), e = .returned ((.agg #[(.bool r.1.1), (.slice ra1 r.1.2.length rc2), (.slice ra4 r.2.length rc5)])) ∧ Grow col w0 col' w' ∧ Own (Rep.int .u32) 114 c1 col' w' ra1 rc2 r.1.2 ∧ Own (Rep.int .u32) 114 c2 col' w' ra4 rc5 r.2) := by
 refine calls_ofR (m := 25) (args := [(.agg #[(.bool p0_a.1.1), (.slice a0_0 p0_a.1.2.length cap0_0), (.slice a0_2 p0_a.2.length cap0_2)]), (.agg #[(.bool p1_b.1.1), (.slice a1_0 p1_b.1.2.length cap1_0), (.slice a1_2 p1_b.2.length cap1_2)])]) Tryz.func35 rfl rfl rfl ?_
 rw [m_frac_Mul.eq_1] at hm
 have hst := St.start col w0
 refine wS (wR ?_)
 refine l_box (col := (col0 col)) (v := (.agg #[(.bool p0_a.1.1), (.slice a0_0 p0_a.1.2.length cap0_0), (.slice a0_2 p0_a.2.length cap0_2)])) 1 rfl rfl ?_
 intro g_1 w_2 col_3 hg_4 hb_5
 replace hb_5 : Box 40 1 col_3 w_2 g_1 #[(.bool p0_a.1.1), (.slice a0_0 p0_a.1.2.length cap0_0), (.slice a0_2 p0_a.2.length cap0_2)] := hb_5
 refine l_box (col := col_3) (v := (.agg #[(.bool p1_b.1.1), (.slice a1_0 p1_b.1.2.length cap1_0), (.slice a1_2 p1_b.2.length cap1_2)])) 2 rfl rfl ?_
 intro g_6 w_7 col_8 hg_9 hb_10
 replace hb_10 : Box 40 2 col_8 w_7 g_6 #[(.bool p1_b.1.1), (.slice a1_0 p1_b.1.2.length cap1_0), (.slice a1_2 p1_b.2.length cap1_2)] := hb_10
 refine l_alloc (col := col_8) (v := (.agg #[(.bool false), (.slice none (([] : List Int).length) 0), (.slice none (([] : List Int).length) 0)])) 3 rfl Tryz.zeroValue40 ?_
 intro g_11 w_12 col_13 hg_14 hb_15
 replace hb_15 : Box 40 3 col_13 w_12 g_11 #[(.bool false), (.slice none (([] : List Int).length) 0), (.slice none (([] : List Int).length) 0)] := hb_15
 refine lN (wS ?_)
 refine wmix (col := col_13) [(0, 1), (1, 1), (2, 0), (3, 1), (4, 1), (5, 0), (6, 1), (7, 1), (8, 1), (9, 0), (10, 1), (11, 1), (12, 0), (14, 0), (16, 0), (13, 3), (15, 3), (17, 3), (18, 3), (19, 3), (20, 2)] (by kernel_rfl) (by kernel_rfl) ?_
 refine xu (v := (.pointer ((some (⟨g_1, 0, none⟩ : Addr)).map (·.add 0)))) rfl rfl (fun _ => rF (sz := 2) (off := 0) Tryz.underlying40 rfl Tryz.sizeOf38 (by decide) rfl rfl ⟨_, _, rfl⟩) ?_
 refine xu (v := (.pointer (((some (⟨g_1, 0, none⟩ : Addr)).map (·.add 0)).map (·.add 0)))) rfl rfl (fun _ => rF (sz := 1) (off := 0) Tryz.underlying38 rfl Tryz.sizeOf4 (by decide) rfl rfl (sptr_addr ⟨_, _, rfl⟩)) ?_
 replace hb_5 := (hb_5.gr hg_9).gr hg_14
 refine xv (v := (.bool p0_a.1.1)) rfl rfl (fun _ hC => r_ld Tryz.isAgg4 rfl (((((hb_5.atN).part 0 2 _ rfl)).nth (q := 0) (v := (.bool p0_a.1.1)) rfl).gr (Grow.of_below (col := col_13) hC.below))) ?_
 refine xu (v := (.pointer ((some (⟨g_6, 0, none⟩ : Addr)).map (·.add 0)))) rfl rfl (fun _ => rF (sz := 2) (off := 0) Tryz.underlying40 rfl Tryz.sizeOf38 (by decide) rfl rfl ⟨_, _, rfl⟩) ?_
 refine xu (v := (.pointer (((some (⟨g_6, 0, none⟩ : Addr)).map (·.add 0)).map (·.add 0)))) rfl rfl (fun _ => rF (sz := 1) (off := 0) Tryz.underlying38 rfl Tryz.sizeOf4 (by decide) rfl rfl (sptr_addr ⟨_, _, rfl⟩)) ?_
 replace hb_10 := hb_10.gr hg_14
 refine xv (v := (.bool p1_b.1.1)) rfl rfl (fun _ hC => r_ld Tryz.isAgg4 rfl (((((hb_10.atN).part 0 2 _ rfl)).nth (q := 0) (v := (.bool p1_b.1.1)) rfl).gr (Grow.of_below (col := col_13) hC.below))) ?_
 refine xu (v := (.bool (!decide (p0_a.1.1 = p1_b.1.1)))) rfl rfl (fun _ => r_neqB p0_a.1.1 p1_b.1.1 Tryz.underlying4 rfl rfl) ?_
 refine xu (v := (.pointer ((some (⟨g_1, 0, none⟩ : Addr)).map (·.add 0)))) rfl rfl (fun _ => rF (sz := 2) (off := 0) Tryz.underlying40 rfl Tryz.sizeOf38 (by decide) rfl rfl ⟨_, _, rfl⟩) ?_
 refine xu (v := (.pointer (((some (⟨g_1, 0, none⟩ : Addr)).map (·.add 0)).map (·.add 1)))) rfl rfl (fun _ => rF (sz := 1) (off := 1) Tryz.underlying38 rfl Tryz.sizeOf36 (by decide) rfl rfl (sptr_addr ⟨_, _, rfl⟩)) ?_
 refine xv (v := (.slice a0_0 p0_a.1.2.length cap0_0)) rfl rfl (fun _ hC => r_ld Tryz.isAgg36 rfl (((((hb_5.atN).part 0 2 _ rfl)).nth (q := 1) (v := (.slice a0_0 p0_a.1.2.length cap0_0)) rfl).gr (Grow.of_below (col := col_13) hC.below))) ?_
 refine xu (v := (.pointer ((some (⟨g_6, 0, none⟩ : Addr)).map (·.add 0)))) rfl rfl (fun _ => rF (sz := 2) (off := 0) Tryz.underlying40 rfl Tryz.sizeOf38 (by decide) rfl rfl ⟨_, _, rfl⟩) ?_
 refine xu (v := (.pointer (((some (⟨g_6, 0, none⟩ : Addr)).map (·.add 0)).map (·.add 1)))) rfl rfl (fun _ => rF (sz := 1) (off := 1) Tryz.underlying38 rfl Tryz.sizeOf36 (by decide) rfl rfl (sptr_addr ⟨_, _, rfl⟩)) ?_
 refine xv (v := (.slice a1_0 p1_b.1.2.length cap1_0)) rfl rfl (fun _ hC => r_ld Tryz.isAgg36 rfl (((((hb_10.atN).part 0 2 _ rfl)).nth (q := 1) (v := (.slice a1_0 p1_b.1.2.length cap1_0)) rfl).gr (Grow.of_below (col := col_13) hC.below))) ?_
 refine xv (v := (.agg #[(.bool p0_a.1.1), (.slice a0_0 p0_a.1.2.length cap0_0), (.slice a0_2 p0_a.2.length cap0_2)])) rfl rfl (fun _ hC => r_ldN Tryz.isAgg40 Tryz.sizeOf40 rfl rfl (hb_5.atN.gr (Grow.of_below (col := col_13) hC.below))) ?_
 refine xv (v := (.agg #[(.bool p1_b.1.1), (.slice a1_0 p1_b.1.2.length cap1_0), (.slice a1_2 p1_b.2.length cap1_2)])) rfl rfl (fun _ hC => r_ldN Tryz.isAgg40 Tryz.sizeOf40 rfl rfl (hb_10.atN.gr (Grow.of_below (col := col_13) hC.below))) ?_
 refine xe rfl rfl ?_
 intro w_16 hC0
 have hC : Grow col_13 w_12 col_13 w_16 := .of_below hC0.below
 obtain ⟨r_17, hr_18, hm⟩ := bS hm
 replace h0_0 := ((((h0_0.keep (Stay.start col w0)).gr hg_4).gr hg_9).gr hg_14).gr hC
 replace h1_0 := ((((h1_0.keep (Stay.start col w0)).gr hg_4).gr hg_9).gr hg_14).gr hC
 refine lc rfl rfl (r_call2 Tryz.call40 rfl rfl) (c_nat_Mul N 4 col_13 _ a0_0 cap0_0 p0_a.1.2 a1_0 cap1_0 p1_b.1.2 h0_0 h1_0 r_17 hr_18) ?_
 rintro _ w_22 ⟨col_24, ra_19, rc_20, rfl, hg_23, rh_21⟩
 refine ⟨_, rfl, ?_⟩
 refine lN ⟨fun w' => Grow col_24 w_22 col_24 w', Grow.refl _ _, fun _ _ h => cls hC0 hg_23 h, ?_⟩
 refine xe rfl rfl ?_
 intro w_25 hC0
 replace h0_2 := (((((h0_2.keep (Stay.start col w0)).gr hg_4).gr hg_9).gr hg_14).gr hC).gr hg_23
 replace h1_2 := (((((h1_2.keep (Stay.start col w0)).gr hg_4).gr hg_9).gr hg_14).gr hC).gr hg_23
 replace hst := ((((hst.grow hg_4).grow hg_9).grow hg_14).grow hC).grow hg_23
 replace hb_15 := (hb_15.gr hC).gr hg_23
 have hC : Grow col_24 w_22 col_24 w_25 := .of_below hC0.below
 obtain ⟨r_26, hr_27, hm⟩ := bS hm
 replace h0_0 := (h0_0.gr hg_23).gr hC
 replace h0_2 := h0_2.gr hC
 refine lc rfl rfl (r_call1 Tryz.call56 rfl) (c_frac_under N 5 col_24 _ a0_0 cap0_0 a0_2 cap0_2 ((p0_a.1.1, p0_a.1.2), p0_a.2) h0_0 h0_2 r_26 hr_27) ?_
 rintro _ w_31 ⟨col_33, ra_28, rc_29, rfl, hg_32, rh_30⟩
 refine ⟨_, rfl, ?_⟩
 refine lN ⟨fun w' => Grow col_33 w_31 col_33 w', Grow.refl _ _, fun _ _ h => cls hC0 hg_32 h, ?_⟩
 refine xe rfl rfl ?_
 intro w_34 hC0
 replace h1_0 := ((h1_0.gr hg_23).gr hC).gr hg_32
 replace h1_2 := (h1_2.gr hC).gr hg_32
 replace rh_21 := (rh_21.gr hC).gr hg_32
 replace hb_15 := (hb_15.gr hC).gr hg_32
 replace hst := (hst.grow hC).grow hg_32
 have hC : Grow col_33 w_31 col_33 w_34 := .of_below hC0.below
 obtain ⟨r_35, hr_36, hm⟩ := bS hm
 replace h1_0 := h1_0.gr hC
 replace h1_2 := h1_2.gr hC
 refine lc rfl rfl (r_call1 Tryz.call56 rfl) (c_frac_under N 6 col_33 _ a1_0 cap1_0 a1_2 cap1_2 ((p1_b.1.1, p1_b.1.2), p1_b.2) h1_0 h1_2 r_35 hr_36) ?_
 rintro _ w_40 ⟨col_42, ra_37, rc_38, rfl, hg_41, rh_39⟩
 refine ⟨_, rfl, ?_⟩
 refine lN ⟨fun w' => Grow col_42 w_40 col_42 w', Grow.refl _ _, fun _ _ h => cls hC0 hg_41 h, ?_⟩
 refine xe rfl rfl ?_
 intro w_43 hC0
 replace rh_21 := (rh_21.gr hC).gr hg_41
 replace rh_30 := (rh_30.gr hC).gr hg_41
 replace hb_15 := (hb_15.gr hC).gr hg_41
 replace hst := (hst.grow hC).grow hg_41
 have hC : Grow col_42 w_40 col_42 w_43 := .of_below hC0.below
 obtain ⟨r_44, hr_45, hm⟩ := bS hm
 replace rh_30 := rh_30.gr hC
 replace rh_39 := rh_39.gr hC
 refine lc rfl rfl (r_call2 Tryz.call40 rfl rfl) (c_nat_Mul N 7 (frC 6 (frC 5 col_42)) _ ra_28 rc_29 r_26 ra_37 rc_38 r_35 ((rh_30.toSlF (Froz.int .u32)).froz 6) ((rh_39.froz 5 (by decide)).toSlF (Froz.int .u32)) r_44 hr_45) ?_
 rintro _ w_49 ⟨col_51, ra_46, rc_47, rfl, hg_50, rh_48⟩
 refine ⟨_, rfl, ?_⟩
 replace rh_48 := rh_48.thaw (flat_int .u32) hg_50 (((Fz.refl (col := col_42)).froz 5).froz 6) (by decide)
 replace hg_50 := hg_50.thawR (col := col_42)
 generalize colR w_43.heap.size col_42 col_51 = col_52 at *
 refine lN ⟨fun w' => Grow col_52 w_49 col_52 w', Grow.refl _ _, fun _ _ h => cls hC0 hg_50 h, ?_⟩
 refine xe rfl rfl ?_
 intro w_53 hC0
 replace rh_21 := (rh_21.gr hC).gr hg_50
 replace hb_15 := (hb_15.gr hC).gr hg_50
 replace hst := (hst.grow hC).grow hg_50
 have hC : Grow col_52 w_49 col_52 w_53 := .of_below hC0.below
 obtain ⟨r_54, hr_55, hm⟩ := bS hm
 replace rh_21 := rh_21.gr hC
 replace rh_48 := rh_48.gr hC
 refine lc rfl rfl (r_call3 Tryz.call55 rfl rfl rfl) (c_frac_lowest N 8 9 (frC 7 (frC 4 col_52)) _ (!decide (p0_a.1.1 = p1_b.1.1)) ra_19 rc_20 r_17 ra_46 rc_47 r_44 ((rh_21.toSlF (Froz.int .u32)).froz 7) ((rh_48.froz 4 (by decide)).toSlF (Froz.int .u32)) r_54 hr_55) ?_
 rintro _ w_62 ⟨col_64, ra_56, rc_57, ra_59, rc_60, rfl, hg_63, rh_58, rh_61⟩
 refine ⟨_, rfl, ?_⟩
 replace rh_58 := rh_58.thaw (flat_int .u32) hg_63 (((Fz.refl (col := col_52)).froz 4).froz 7) (by decide)
 replace rh_61 := rh_61.thaw (flat_int .u32) hg_63 (((Fz.refl (col := col_52)).froz 4).froz 7) (by decide)
 replace hg_63 := hg_63.thawR (col := col_52)
 generalize colR w_53.heap.size col_52 col_64 = col_65 at *
 refine lN ⟨fun w' => Grow col_65 w_62 col_65 w', Grow.refl _ _, fun _ _ h => cls hC0 hg_63 h, ?_⟩
 refine xe rfl rfl ?_
 intro w_66 hC0
 replace hb_15 := (hb_15.gr hC).gr hg_63
 replace hst := (hst.grow hC).grow hg_63
 have hC : Grow col_65 w_62 col_65 w_66 := .of_below hC0.below
 replace hb_15 := hb_15.gr hC
 refine l_bstore (v := (.agg #[(.bool r_54.1.1), (.slice ra_56 r_54.1.2.length rc_57), (.slice ra_59 r_54.2.length rc_60)])) hb_15 Tryz.sizeOf40 rfl rfl (by intro u hu; simp only [Value.cells, List.mem_cons, List.not_mem_nil, or_false] at hu; rcases hu with rfl | rfl | rfl <;> rfl) rfl rfl ?_
 intro w_67 hk_68 hs_69 hb_70
 clear hb_15
 replace hb_70 : Box 40 3 col_65 w_67 g_11 #[(.bool r_54.1.1), (.slice ra_56 r_54.1.2.length rc_57), (.slice ra_59 r_54.2.length rc_60)] := hb_70
 refine lN ⟨fun w' => Grow col_65 w_67 col_65 w', Grow.refl _ _, fun h => absurd h (by decide), ?_⟩
 refine xnil ?_
 replace rh_58 := (rh_58.gr hC).kp hk_68
 replace rh_61 := (rh_61.gr hC).kp hk_68
 replace hst := (hst.grow hC).kp hk_68 hs_69
 intro w_71 hC
 replace hC : Grow col_65 w_67 col_65 w_71 := .of_below hC.below
 refine wret ?_
 cases hm
 replace rh_58 := rh_58.gr hC
 replace rh_61 := rh_61.gr hC
 replace hb_70 := hb_70.gr hC
 replace hst := hst.grow hC
 exact ⟨rfl, _, res_a rfl rfl Tryz.isAgg40 Tryz.sizeOf40 rfl rfl hb_70.atN, colF w0.heap.size col col_65 (fun n => bif Nat.beq n 8 then c1 else bif Nat.beq n 9 then c2 else 0), ra_56, rc_57, ra_59, rc_60, rfl, hst.fin (fun n => bif Nat.beq n 8 then c1 else bif Nat.beq n 9 then c2 else 0), hst.finOwn (g := (fun n => bif Nat.beq n 8 then c1 else bif Nat.beq n 9 then c2 else 0)) rfl rh_58 (by decide) (by decide) rfl, hst.finOwn (g := (fun n => bif Nat.beq n 8 then c1 else bif Nat.beq n 9 then c2 else 0)) rfl rh_61 (by decide) (by decide) rfl⟩
def m_code_Span_1_v2ss (p0_v : Int) (p1_parts : (List (((Bool × (List Int)) × (List Int)) × ((Bool × (List Int)) × (List Int))))) (p2_v : (List Int)) : Option Int :=
  (at? p2_v p0_v).bind fun e_1 => some e_1
theorem c_code_Span_1_v2ss (col : Col) (w0 : World) (qc2 : Nat) (hqqc2 : qc2 ≠ 0) (p0_v : Int) (a1 : Option Addr) (cap1 : Nat) (p1_parts : (List (((Bool × (List Int)) × (List Int)) × ((Bool × (List Int)) × (List Int))))) (g2 : Nat) (p2_v : (List Int)) (a2_2 : Option Addr) (cap2_2 : Nat) (h1 : Sl (Rep.pair (Rep.pair (Rep.pair Rep.bool (Rep.slice (Rep.int .u32))) (Rep.slice (Rep.int .u32))) (Rep.pair (Rep.pair Rep.bool (Rep.slice (Rep.int .u32))) (Rep.slice (Rep.int .u32)))) col w0 a1 cap1 p1_parts) (h2_2 : Sl (Rep.int .i64) col w0 a2_2 cap2_2 p2_v) (hb2 : Box 33 qc2 col w0 g2 #[(.slice a2_2 p2_v.length cap2_2)]) (r : Int) (hm : m_code_Span_1_v2ss p0_v p1_parts p2_v = some r) :
    Calls Tryz.prog 74 #[(.int .i64 p0_v), (.slice a1 p1_parts.length cap1), (.pointer (some ⟨g2, 0, none⟩))] w0 (fun e w' => e = .returned ((.int .i64 r)) ∧ Below w0.heap.size w0 w') := by
 refine calls_of1 5 (m := 10) (args := [(.int .i64 p0_v), (.slice a1 p1_parts.length cap1), (.pointer (some ⟨g2, 0, none⟩))]) Tryz.func74 rfl rfl rfl rfl rfl ?_
 rw [m_code_Span_1_v2ss.eq_1] at hm
 have hst := St.start col w0
 replace hb2 := hb2.start0 hqqc2
 refine wS (wR ?_)
 refine lA (.int .i64 0) ?_
 refine lN (wS (wR ?_))
 refine lV (.slice a2_2 p2_v.length cap2_2) (r_ld Tryz.isAgg33 rfl hb2.at1) ?_
 refine lM (.int .i64 p0_v) ?_
 obtain ⟨e_1, hj_2, hm⟩ := bS hm
 replace h2_2 := h2_2.keep (Stay.start col w0)
 refine lV (sptr a2_2 (Int.toNat p0_v * 1)) (r_idx Tryz.underlying33 Tryz.sizeOf3 rfl rfl (at?_some hj_2).1 (at?_some hj_2).2.1 (h2_2.addr hj_2)) ?_
 refine lV (.int .i64 e_1) (r_ld Tryz.isAgg3 rfl (h2_2.atInt hj_2)) ?_
 refine lA (.int .i64 e_1) ?_
 refine lN ?_
 refine wret ?_
 cases hm
 exact ⟨rfl, rfl, hst.below⟩
theorem el62_71V2C74XS : ElemOk Tryz.prog 62 6 112 := ⟨Tryz.t62, _, rfl, rfl, rfl, rfl, rfl⟩
def m_code_cut_v2c74xs_L3 (N : Nat) (p0_n : (ByteArray × (List ByteArray) × (List (List ByteArray)) × (List (List Int)) × (List (List ((Bool × (List Int)) × (List Int)))))) (n_70 : List Int) (v_74 : Bool) (v_75 : List Int) (v_79 : List Int) (v_83 : Bool) (v_84 : List Int) (v_88 : List Int) (values_92 : List Int) (kk_L1 : (Bool → (List Int) → (List Int) → Bool → (List Int) → (List Int) → (List Int) → Bool → (List Int) → (List Int) → Bool → (List Int) → (List Int) → (List Int) → Option ((List Int) × (((Bool × (List Int)) × (List Int)) × ((Bool × (List Int)) × (List Int))) × Bool))) (x_96 : Int) (row_115 : Int) (r_118 : ((Bool × (List Int)) × (List Int))) (e_147 : (List ByteArray)) : Nat → Bool → (List Int) → (List Int) → (List (((Bool × (List Int)) × (List Int)) × ((Bool × (List Int)) × (List Int)))) → Int → Option ((List Int) × (((Bool × (List Int)) × (List Int)) × ((Bool × (List Int)) × (List Int))) × Bool)
  | 0, _, _, _, _, _ => none
  | n_154 + 1, at_157, at_158, at_162, parts_166, v_170 => if (decide (v_170 < (e_147.length : Int))) = true then ((at? p0_n.2.2.2.2 x_96).bind fun e_172 => (at? p0_n.2.2.1 x_96).bind fun e_179 => (at? e_172 (IntKind.i64.wrap ((IntKind.i64.wrap (row_115 * (e_179.length : Int))) + v_170))).bind fun e_186 => (m_frac_Mul N ((r_118.1.1, r_118.1.2), r_118.2) ((e_186.1.1, e_186.1.2), e_186.2)).bind fun r_201 => (m_frac_Add N ((at_157, at_158), at_162) ((r_201.1.1, r_201.1.2), r_201.2)).bind fun r_215 => chk ((parts_166.length + [(((at_157, at_158), at_162), ((r_215.1.1, r_215.1.2), r_215.2))].length) * 112 ≤ 140737488355328 ∧ parts_166.length + [(((at_157, at_158), at_162), ((r_215.1.1, r_215.1.2), r_215.2))].length ≤ maxLen) ((m_code_cut_v2c74xs_L3 N p0_n n_70 v_74 v_75 v_79 v_83 v_84 v_88 values_92 kk_L1 x_96 row_115 r_118 e_147 n_154) r_215.1.1 r_215.1.2 r_215.2 (parts_166 ++ [(((at_157, at_158), at_162), ((r_215.1.1, r_215.1.2), r_215.2))]) (IntKind.i64.wrap (v_170 + 1)))) else ((m_code_Span_1_v2ss x_96 parts_166 n_70).bind fun r_255 => if (decide (r_255 < 0)) = true then none else ((at? parts_166 r_255).bind fun e_259 => (at? values_92 x_96).bind fun e_285 => (some (values_92.set (Int.toNat x_96) r_255)).bind fun xs_292 => kk_L1 e_259.1.1.1 e_259.1.1.2 e_259.1.2 e_259.2.1.1 e_259.2.1.2 e_259.2.2 n_70 v_74 v_75 v_79 v_83 v_84 v_88 xs_292))
termination_by structural x => x
def m_code_cut_v2c74xs_L2 (N : Nat) (p0_n : (ByteArray × (List ByteArray) × (List (List ByteArray)) × (List (List Int)) × (List (List ((Bool × (List Int)) × (List Int)))))) (s_52 : Bool) (s_53 : List Int) (s_57 : List Int) (s_61 : Bool) (s_62 : List Int) (s_66 : List Int) (n_70 : List Int) (v_74 : Bool) (v_75 : List Int) (v_79 : List Int) (v_83 : Bool) (v_84 : List Int) (v_88 : List Int) (values_92 : List Int) (kk_L1 : (Bool → (List Int) → (List Int) → Bool → (List Int) → (List Int) → (List Int) → Bool → (List Int) → (List Int) → Bool → (List Int) → (List Int) → (List Int) → Option ((List Int) × (((Bool × (List Int)) × (List Int)) × ((Bool × (List Int)) × (List Int))) × Bool))) (x_96 : Int) : List Int → Int → Option ((List Int) × (((Bool × (List Int)) × (List Int)) × ((Bool × (List Int)) × (List Int))) × Bool)
  | [], row_115 => (m_frac_Sub N ((s_61, s_62), s_66) ((s_52, s_53), s_57)).bind fun r_118 => (at? p0_n.2.2.1 x_96).bind fun e_147 => m_code_cut_v2c74xs_L3 N p0_n n_70 v_74 v_75 v_79 v_83 v_84 v_88 values_92 kk_L1 x_96 row_115 r_118 e_147 N s_52 s_53 s_57 ([] : List (((Bool × (List Int)) × (List Int)) × ((Bool × (List Int)) × (List Int)))) 0
  | x_116 :: l_117, row_115 => (at? p0_n.2.2.1 x_116).bind fun e_297 => (at? values_92 x_116).bind fun e_304 => (m_code_cut_v2c74xs_L2 N p0_n s_52 s_53 s_57 s_61 s_62 s_66 n_70 v_74 v_75 v_79 v_83 v_84 v_88 values_92 kk_L1 x_96 l_117) (IntKind.i64.wrap ((IntKind.i64.wrap (row_115 * (e_297.length : Int))) + e_304))
termination_by structural x => x
def m_code_cut_v2c74xs_L1 (N : Nat) (p0_n : (ByteArray × (List ByteArray) × (List (List ByteArray)) × (List (List Int)) × (List (List ((Bool × (List Int)) × (List Int)))))) : List Int → Bool → (List Int) → (List Int) → Bool → (List Int) → (List Int) → (List Int) → Bool → (List Int) → (List Int) → Bool → (List Int) → (List Int) → (List Int) → Option ((List Int) × (((Bool × (List Int)) × (List Int)) × ((Bool × (List Int)) × (List Int))) × Bool)
  | [], s_52, s_53, s_57, s_61, s_62, s_66, n_70, v_74, v_75, v_79, v_83, v_84, v_88, values_92 => some (values_92, (((s_52, s_53), s_57), ((s_61, s_62), s_66)), true)
  | x_96 :: l_97, s_52, s_53, s_57, s_61, s_62, s_66, n_70, v_74, v_75, v_79, v_83, v_84, v_88, values_92 => (at? p0_n.2.2.2.1 x_96).bind fun e_104 => m_code_cut_v2c74xs_L2 N p0_n s_52 s_53 s_57 s_61 s_62 s_66 n_70 v_74 v_75 v_79 v_83 v_84 v_88 values_92 (m_code_cut_v2c74xs_L1 N p0_n l_97) x_96 e_104 0
termination_by structural x => x
def m_code_cut_v2c74xs (N : Nat) (p0_n : (ByteArray × (List ByteArray) × (List (List ByteArray)) × (List (List Int)) × (List (List ((Bool × (List Int)) × (List Int)))))) (p1_order : (List Int)) (q3_v : (List Int)) : Option ((List Int) × (((Bool × (List Int)) × (List Int)) × ((Bool × (List Int)) × (List Int))) × Bool) :=
  chk (p0_n.2.1.length * 8 ≤ 281474976710656 ∧ p0_n.2.1.length ≤ maxLen) ((m_frac_Sum N ([] : List ((Bool × (List Int)) × (List Int)))).bind fun r_17 => (m_code_one).bind fun r_28 => m_code_cut_v2c74xs_L1 N p0_n p1_order r_17.1.1 r_17.1.2 r_17.2 r_28.1.1 r_28.1.2 r_28.2 q3_v false ([] : List Int) ([] : List Int) false ([] : List Int) ([] : List Int) (List.replicate p0_n.2.1.length (0 : Int)))
theorem c_code_cut_v2c74xs (N : Nat) (c1 : Nat) (col : Col) (w0 : World) (qc3 : Nat) (hqqc3 : qc3 ≠ 0) (a0_0 : Option Addr) (cap0_0 : Nat) (a0_2 : Option Addr) (cap0_2 : Nat) (a0_4 : Option Addr) (cap0_4 : Nat) (a0_6 : Option Addr) (cap0_6 : Nat) (p0_n : (ByteArray × (List ByteArray) × (List (List ByteArray)) × (List (List Int)) × (List (List ((Bool × (List Int)) × (List Int)))))) (a1 : Option Addr) (cap1 : Nat) (p1_order : (List Int)) (g3 : Nat) (q3_v : (List Int)) (a3_2 : Option Addr) (cap3_2 : Nat) (h0_0 : Sl Rep.str col w0 a0_0 cap0_0 p0_n.2.1) (h0_2 : Sl (Rep.slice Rep.str) col w0 a0_2 cap0_2 p0_n.2.2.1) (h0_4 : Sl (Rep.slice (Rep.int .i64)) col w0 a0_4 cap0_4 p0_n.2.2.2.1) (h0_6 : Sl (Rep.slice (Rep.pair (Rep.pair Rep.bool (Rep.slice (Rep.int .u32))) (Rep.slice (Rep.int .u32)))) col w0 a0_6 cap0_6 p0_n.2.2.2.2) (h1 : Sl (Rep.int .i64) col w0 a1 cap1 p1_order) (h3_2 : Sl (Rep.int .i64) col w0 a3_2 cap3_2 q3_v) (hb3 : Box 33 qc3 col w0 g3 #[(.slice a3_2 q3_v.length cap3_2)]) (r : ((List Int) × (((Bool × (List Int)) × (List Int)) × ((Bool × (List Int)) × (List Int))) × Bool)) (hm : m_code_cut_v2c74xs N p0_n p1_order q3_v = some r) :
    Calls Tryz.prog 71 #[(.agg #[(.string p0_n.1), (.slice a0_0 p0_n.2.1.length cap0_0), (.slice a0_2 p0_n.2.2.1.length cap0_2), (.slice a0_4 p0_n.2.2.2.1.length cap0_4), (.slice a0_6 p0_n.2.2.2.2.length cap0_6)]), (.slice a1 p1_order.length cap1), (.func (.func 74) #[] #[(.pointer (some ⟨g3, 0, none⟩))])] w0 (fun e w' => ∃ (col' : Col) (ra1 : Option Addr) (rc2 : Nat) (ra4 : Option Addr) (rc5 : Nat) (ra7 : Option Addr) (rc8 : Nat) (ra10 : Option Addr) (rc11 : Nat) (ra13 : Option Addr) (rc14 : Nat), e = .returned (.tuple #[(.slice ra1 r.1.length rc2), (.agg #[(.bool r.2.1.1.1.1), (.slice ra4 r.2.1.1.1.2.length rc5), (.slice ra7 r.2.1.1.2.length rc8), (.bool r.2.1.2.1.1), (.slice ra10 r.2.1.2.1.2.length rc11), (.slice ra13 r.2.1.2.2.length rc14)]), (.bool r.2.2)]) ∧ Grow col w0 col' w' ∧ Own (Rep.int .i64) 3 c1 col' w' ra1 rc2 r.1 ∧ Sl (Rep.int .u32) col' w' ra4 rc5 r.2.1.1.1.2 ∧ Sl (Rep.int .u32) col' w' ra7 rc8 r.2.1.1.2 ∧ Sl (Rep.int .u32) col' w' ra10 rc11 r.2.1.2.1.2 ∧ Sl (Rep.int .u32) col' w' ra13 rc14 r.2.1.2.2) := by
 refine calls_ofR (m := 122) (args := [(.agg #[(.string p0_n.1), (.slice a0_0 p0_n.2.1.length cap0_0), (.slice a0_2 p0_n.2.2.1.length cap0_2), (.slice a0_4 p0_n.2.2.2.1.length cap0_4), (.slice a0_6 p0_n.2.2.2.2.length cap0_6)]), (.slice a1 p1_order.length cap1), (.func (.func 74) #[] #[(.pointer (some ⟨g3, 0, none⟩))])]) Tryz.func71 rfl rfl rfl ?_
 rw [m_code_cut_v2c74xs.eq_1] at hm
 have hst := St.start col w0
 replace hb3 := hb3.start0 hqqc3
 refine wS (wR ?_)
 refine l_box (col := (col0 col)) (v := (.agg #[(.string p0_n.1), (.slice a0_0 p0_n.2.1.length cap0_0), (.slice a0_2 p0_n.2.2.1.length cap0_2), (.slice a0_4 p0_n.2.2.2.1.length cap0_4), (.slice a0_6 p0_n.2.2.2.2.length cap0_6)])) 1 rfl rfl ?_
 intro g_1 w_2 col_3 hg_4 hb_5
 replace hb_5 : Box 28 1 col_3 w_2 g_1 #[(.string p0_n.1), (.slice a0_0 p0_n.2.1.length cap0_0), (.slice a0_2 p0_n.2.2.1.length cap0_2), (.slice a0_4 p0_n.2.2.2.1.length cap0_4), (.slice a0_6 p0_n.2.2.2.2.length cap0_6)] := hb_5
 refine lA (.slice none (([] : List Int).length) 0) ?_
 refine l_alloc (col := col_3) (v := (.agg #[(.bool false), (.slice none (([] : List Int).length) 0), (.slice none (([] : List Int).length) 0), (.bool false), (.slice none (([] : List Int).length) 0), (.slice none (([] : List Int).length) 0)])) 2 rfl Tryz.zeroValue62 ?_
 intro g_6 w_7 col_8 hg_9 hb_10
 replace hb_10 : Box 62 2 col_8 w_7 g_6 #[(.bool false), (.slice none (([] : List Int).length) 0), (.slice none (([] : List Int).length) 0), (.bool false), (.slice none (([] : List Int).length) 0), (.slice none (([] : List Int).length) 0)] := hb_10
 refine lA (.bool false) ?_
 refine lN (wS (wR ?_))
 refine lV (.pointer ((some (⟨g_1, 0, none⟩ : Addr)).map (·.add 1))) (rF (sz := 1) (off := 1) Tryz.underlying28 rfl Tryz.sizeOf23 (by decide) rfl rfl ⟨_, _, rfl⟩) ?_
 replace hb_5 := hb_5.gr hg_9
 refine lV (.slice a0_0 p0_n.2.1.length cap0_0) (r_ld Tryz.isAgg23 rfl ((hb_5.atN).nth (q := 1) (v := (.slice a0_0 p0_n.2.1.length cap0_0)) rfl)) ?_
 refine lV (.int .i64 (p0_n.2.1.length : Int)) (r_len Tryz.underlying23 rfl) ?_
 obtain ⟨hb_11, hm⟩ := cS hm
 refine l_make (col := col_8) (w := w_7) (r := (Rep.int .i64)) (n := p0_n.2.1.length) (x0 := 0) 3 rfl Tryz.underlying33 Tryz.t3 rfl rfl rfl rfl rfl rfl rfl hb_11.1 hb_11.2 (rd_int .i64 0) ?_
 intro a_12 w_13 col_14 hg_15 h_16
 refine lA (.slice a_12 ((List.replicate p0_n.2.1.length (0 : Int)).length) p0_n.2.1.length) ?_
 refine lN (wS (wR ?_))
 obtain ⟨r_17, hr_18, hm⟩ := bS hm
 refine lc rfl rfl (r_call1 Tryz.call51 rfl) (c_frac_Sum N 4 5 col_14 _ none 0 ([] : List ((Bool × (List Int)) × (List Int))) Sl.nil r_17 hr_18) ?_
 rintro _ w_25 ⟨col_27, ra_19, rc_20, ra_22, rc_23, rfl, hg_26, rh_21, rh_24⟩
 refine ⟨_, rfl, ?_⟩
 obtain ⟨r_28, hr_29, hm⟩ := bS hm
 refine lc rfl rfl (r_call0 Tryz.call67 ) (c_code_one 6 7 col_27 _ r_28 hr_29) ?_
 rintro _ w_36 ⟨col_38, ra_30, rc_31, ra_33, rc_34, rfl, hg_37, rh_32, rh_35⟩
 refine ⟨_, rfl, ?_⟩
 refine lV (.agg #[(.bool r_17.1.1), (.slice ra_19 r_17.1.2.length rc_20), (.slice ra_22 r_17.2.length rc_23), (.bool r_28.1.1), (.slice ra_30 r_28.1.2.length rc_31), (.slice ra_33 r_28.2.length rc_34)]) (r_build (l := [_, _]) (qs := [(0, 3), (3, 3)]) Tryz.underlying62 Tryz.zeroValue62 ⟨rfl, Tryz.sizeOf40, rfl, Tryz.sizeOf40, trivial⟩ rfl) ?_
 refine l_alloc (col := col_38) (v := (.agg #[(.bool false), (.slice none (([] : List Int).length) 0), (.slice none (([] : List Int).length) 0), (.bool false), (.slice none (([] : List Int).length) 0), (.slice none (([] : List Int).length) 0)])) 8 rfl Tryz.zeroValue62 ?_
 intro g_39 w_40 col_41 hg_42 hb_43
 replace hb_43 : Box 62 8 col_41 w_40 g_39 #[(.bool false), (.slice none (([] : List Int).length) 0), (.slice none (([] : List Int).length) 0), (.bool false), (.slice none (([] : List Int).length) 0), (.slice none (([] : List Int).length) 0)] := hb_43
 refine l_bstore (v := (.agg #[(.bool r_17.1.1), (.slice ra_19 r_17.1.2.length rc_20), (.slice ra_22 r_17.2.length rc_23), (.bool r_28.1.1), (.slice ra_30 r_28.1.2.length rc_31), (.slice ra_33 r_28.2.length rc_34)])) hb_43 Tryz.sizeOf62 rfl rfl (by intro u hu; simp only [Value.cells, List.mem_cons, List.not_mem_nil, or_false] at hu; rcases hu with rfl | rfl | rfl | rfl | rfl | rfl <;> rfl) rfl rfl ?_
 intro w_44 hk_45 hs_46 hb_47
 clear hb_43
 replace hb_47 : Box 62 8 col_41 w_44 g_39 #[(.bool r_17.1.1), (.slice ra_19 r_17.1.2.length rc_20), (.slice ra_22 r_17.2.length rc_23), (.bool r_28.1.1), (.slice ra_30 r_28.1.2.length rc_31), (.slice ra_33 r_28.2.length rc_34)] := hb_47
 refine lN (wS (wS (wR ?_)))
 refine lM (.slice a1 p1_order.length cap1) ?_
 refine lV (.int .i64 (p1_order.length : Int)) (r_len Tryz.underlying33 rfl) ?_
 refine lM (.int .i64 0) ?_
 refine lN (wB ?_)
 replace h3_2 := (((((((h3_2.keep (Stay.start col w0)).gr hg_4).gr hg_9).gr hg_15).gr hg_26).gr hg_37).gr hg_42).kp hk_45
 replace h3_2 := h3_2.froz 4
 replace h0_0 := (((((((h0_0.keep (Stay.start col w0)).gr hg_4).gr hg_9).gr hg_15).gr hg_26).gr hg_37).gr hg_42).kp hk_45
 replace h0_0 := h0_0.froz 4
 replace h0_2 := (((((((h0_2.keep (Stay.start col w0)).gr hg_4).gr hg_9).gr hg_15).gr hg_26).gr hg_37).gr hg_42).kp hk_45
 replace h0_2 := h0_2.froz 4
 replace h0_4 := (((((((h0_4.keep (Stay.start col w0)).gr hg_4).gr hg_9).gr hg_15).gr hg_26).gr hg_37).gr hg_42).kp hk_45
 replace h0_4 := h0_4.froz 4
 replace h0_6 := (((((((h0_6.keep (Stay.start col w0)).gr hg_4).gr hg_9).gr hg_15).gr hg_26).gr hg_37).gr hg_42).kp hk_45
 replace h0_6 := h0_6.froz 4
 replace h_16 := (((h_16.gr hg_26).gr hg_37).gr hg_42).kp hk_45
 replace h_16 := h_16.froz 4 (by decide)
 replace rh_21 := ((rh_21.gr hg_37).gr hg_42).kp hk_45
 replace rh_21 := (rh_21).toSlF (Froz.int .u32)
 replace rh_24 := ((rh_24.gr hg_37).gr hg_42).kp hk_45
 replace rh_24 := rh_24.froz 4 (by decide)
 replace rh_32 := (rh_32.gr hg_42).kp hk_45
 replace rh_32 := rh_32.froz 4 (by decide)
 replace rh_35 := (rh_35.gr hg_42).kp hk_45
 replace rh_35 := rh_35.froz 4 (by decide)
 replace h1 := (((((((h1.keep (Stay.start col w0)).gr hg_4).gr hg_9).gr hg_15).gr hg_26).gr hg_37).gr hg_42).kp hk_45
 replace h1 := h1.froz 4
 replace hb3 := ((((((hb3.gr hg_4).gr hg_9).gr hg_15).gr hg_26).gr hg_37).gr hg_42).kp hk_45
 replace hb3 := hb3.froz 4 (by decide)
 replace hb_5 := ((((hb_5.gr hg_15).gr hg_26).gr hg_37).gr hg_42).kp hk_45
 replace hb_5 := hb_5.froz 4 (by decide)
 replace hb_10 := ((((hb_10.gr hg_15).gr hg_26).gr hg_37).gr hg_42).kp hk_45
 replace hb_10 := hb_10.froz 4 (by decide)
 replace hb_47 := hb_47.froz 4 (by decide)
 replace hst := ((((((hst.grow hg_4).grow hg_9).grow hg_15).grow hg_26).grow hg_37).grow hg_42).kp hk_45 hs_46
 replace hst := hst.froz 4 (by decide) (by decide)
 replace h3_2 := h3_2.froz 5
 replace h0_0 := h0_0.froz 5
 replace h0_2 := h0_2.froz 5
 replace h0_4 := h0_4.froz 5
 replace h0_6 := h0_6.froz 5
 replace h_16 := h_16.froz 5 (by decide)
 replace rh_21 := rh_21.froz 5
 replace rh_24 := (rh_24).toSlF (Froz.int .u32)
 replace rh_32 := rh_32.froz 5 (by decide)
 replace rh_35 := rh_35.froz 5 (by decide)
 replace h1 := h1.froz 5
 replace hb3 := hb3.froz 5 (by decide)
 replace hb_5 := hb_5.froz 5 (by decide)
 replace hb_10 := hb_10.froz 5 (by decide)
 replace hb_47 := hb_47.froz 5 (by decide)
 replace hst := hst.froz 5 (by decide) (by decide)
 replace h3_2 := h3_2.froz 6
 replace h0_0 := h0_0.froz 6
 replace h0_2 := h0_2.froz 6
 replace h0_4 := h0_4.froz 6
 replace h0_6 := h0_6.froz 6
 replace h_16 := h_16.froz 6 (by decide)
 replace rh_21 := rh_21.froz 6
 replace rh_24 := rh_24.froz 6
 replace rh_32 := (rh_32).toSlF (Froz.int .u32)
 replace rh_35 := rh_35.froz 6 (by decide)
 replace h1 := h1.froz 6
 replace hb3 := hb3.froz 6 (by decide)
 replace hb_5 := hb_5.froz 6 (by decide)
 replace hb_10 := hb_10.froz 6 (by decide)
 replace hb_47 := hb_47.froz 6 (by decide)
 replace hst := hst.froz 6 (by decide) (by decide)
 replace h3_2 := h3_2.froz 7
 replace h0_0 := h0_0.froz 7
 replace h0_2 := h0_2.froz 7
 replace h0_4 := h0_4.froz 7
 replace h0_6 := h0_6.froz 7
 replace h_16 := h_16.froz 7 (by decide)
 replace rh_21 := rh_21.froz 7
 replace rh_24 := rh_24.froz 7
 replace rh_32 := rh_32.froz 7
 replace rh_35 := (rh_35).toSlF (Froz.int .u32)
 replace h1 := h1.froz 7
 replace hb3 := hb3.froz 7 (by decide)
 replace hb_5 := hb_5.froz 7 (by decide)
 replace hb_10 := hb_10.froz 7 (by decide)
 replace hb_47 := hb_47.froz 7 (by decide)
 replace hst := hst.froz 7 (by decide) (by decide)
 refine wloop (fun n f w_50 => ∃ (col_51 : Col) (s_52 : Bool) (a_54 : Option Addr) (cap_55 : Nat) (s_53 : List Int) (a_58 : Option Addr) (cap_59 : Nat) (s_57 : List Int) (s_61 : Bool) (a_63 : Option Addr) (cap_64 : Nat) (s_62 : List Int) (a_67 : Option Addr) (cap_68 : Nat) (s_66 : List Int) (a_71 : Option Addr) (cap_72 : Nat) (n_70 : List Int) (k_48 : Nat) (v_74 : Bool) (a_76 : Option Addr) (cap_77 : Nat) (v_75 : List Int) (a_80 : Option Addr) (cap_81 : Nat) (v_79 : List Int) (v_83 : Bool) (a_85 : Option Addr) (cap_86 : Nat) (v_84 : List Int) (a_89 : Option Addr) (cap_90 : Nat) (v_88 : List Int) (a_93 : Option Addr) (cap_94 : Nat) (values_92 : List Int) (l_49 : List Int), n = l_49.length ∧ p1_order.drop k_48 = l_49 ∧ m_code_cut_v2c74xs_L1 N p0_n l_49 s_52 s_53 s_57 s_61 s_62 s_66 n_70 v_74 v_75 v_79 v_83 v_84 v_88 values_92 = some r ∧ St w0 (col0 col) col_51 w_50 ∧ Sl (Rep.int .u32) col_51 w_50 a_54 cap_55 s_53 ∧ Sl (Rep.int .u32) col_51 w_50 a_58 cap_59 s_57 ∧ Sl (Rep.int .u32) col_51 w_50 a_63 cap_64 s_62 ∧ Sl (Rep.int .u32) col_51 w_50 a_67 cap_68 s_66 ∧ Box 62 8 col_51 w_50 g_39 #[(.bool s_52), (.slice a_54 s_53.length cap_55), (.slice a_58 s_57.length cap_59), (.bool s_61), (.slice a_63 s_62.length cap_64), (.slice a_67 s_66.length cap_68)] ∧ Sl (Rep.int .i64) col_51 w_50 a_71 cap_72 n_70 ∧ Box 33 999 col_51 w_50 g3 #[(.slice a_71 n_70.length cap_72)] ∧ Sl (Rep.int .i64) col_51 w_50 a1 cap1 p1_order ∧ Sl Rep.str col_51 w_50 a0_0 cap0_0 p0_n.2.1 ∧ Sl (Rep.slice Rep.str) col_51 w_50 a0_2 cap0_2 p0_n.2.2.1 ∧ Sl (Rep.slice (Rep.int .i64)) col_51 w_50 a0_4 cap0_4 p0_n.2.2.2.1 ∧ Sl (Rep.slice (Rep.pair (Rep.pair Rep.bool (Rep.slice (Rep.int .u32))) (Rep.slice (Rep.int .u32)))) col_51 w_50 a0_6 cap0_6 p0_n.2.2.2.2 ∧ Box 28 1 col_51 w_50 g_1 #[(.string p0_n.1), (.slice a0_0 p0_n.2.1.length cap0_0), (.slice a0_2 p0_n.2.2.1.length cap0_2), (.slice a0_4 p0_n.2.2.2.1.length cap0_4), (.slice a0_6 p0_n.2.2.2.2.length cap0_6)] ∧ Own (Rep.int .u32) 114 9 col_51 w_50 a_76 cap_77 v_75 ∧ Own (Rep.int .u32) 114 10 col_51 w_50 a_80 cap_81 v_79 ∧ Own (Rep.int .u32) 114 11 col_51 w_50 a_85 cap_86 v_84 ∧ Own (Rep.int .u32) 114 12 col_51 w_50 a_89 cap_90 v_88 ∧ Box 62 2 col_51 w_50 g_6 #[(.bool v_74), (.slice a_76 v_75.length cap_77), (.slice a_80 v_79.length cap_81), (.bool v_83), (.slice a_85 v_84.length cap_86), (.slice a_89 v_88.length cap_90)] ∧ Own (Rep.int .i64) 3 3 col_51 w_50 a_93 cap_94 values_92 ∧ f 31 = (.int .i64 (k_48 : Int)) ∧ f 10 = (.pointer (some ⟨g_39, 0, none⟩)) ∧ f 2 = (.func (.func 74) #[] #[(.pointer (some ⟨g3, 0, none⟩))]) ∧ f 29 = (.slice a1 p1_order.length cap1) ∧ f 3 = (.pointer (some ⟨g_1, 0, none⟩)) ∧ f 30 = (.int .i64 (p1_order.length : Int)) ∧ f 7 = (.pointer (some ⟨g_6, 0, none⟩)) ∧ f 9 = (.slice a_93 values_92.length cap_94) ∧ f 1000000 = (enc [])) p1_order.length ⟨(frC 7 (frC 6 (frC 5 (frC 4 col_41)))), r_17.1.1, ra_19, rc_20, r_17.1.2, ra_22, rc_23, r_17.2, r_28.1.1, ra_30, rc_31, r_28.1.2, ra_33, rc_34, r_28.2, a3_2, cap3_2, q3_v, 0, false, none, 0, ([] : List Int), none, 0, ([] : List Int), false, none, 0, ([] : List Int), none, 0, ([] : List Int), a_12, p0_n.2.1.length, (List.replicate p0_n.2.1.length (0 : Int)), p1_order, rfl, rfl, hm, hst, rh_21, rh_24, rh_32, rh_35, hb_47, h3_2, hb3, h1, h0_0, h0_2, h0_4, h0_6, hb_5, Own.nil, Own.nil, Own.nil, Own.nil, hb_10, h_16, rfl, rfl, rfl, rfl, rfl, rfl, rfl, rfl, rfl⟩ ?_
 clear hm; intro n f w_50 hI
 obtain ⟨col_51, s_52, a_54, cap_55, s_53, a_58, cap_59, s_57, s_61, a_63, cap_64, s_62, a_67, cap_68, s_66, a_71, cap_72, n_70, k_48, v_74, a_76, cap_77, v_75, a_80, cap_81, v_79, v_83, a_85, cap_86, v_84, a_89, cap_90, v_88, a_93, cap_94, values_92, l_49, hn, hl, hm, hst, h_56, h_60, h_65, h_69, hb_47, h_73, hb3, h1, h0_0, h0_2, h0_4, h0_6, hb_5, h_78, h_82, h_87, h_91, hb_10, h_95, hs31, hs10, hs2, hs29, hs3, hs30, hs7, hs9, hs1000000⟩ := hI
 subst hn
 refine .lD 31 hs31 ?_
 refine .lD 10 hs10 ?_
 refine .lD 2 hs2 ?_
 refine .lD 29 hs29 ?_
 refine .lD 3 hs3 ?_
 refine .lD 30 hs30 ?_
 refine .lD 7 hs7 ?_
 refine .lD 9 hs9 ?_
 refine .lD 1000000 hs1000000 ?_
 clear hs31 hs10 hs2 hs29 hs3 hs30 hs7 hs9 hs1000000
 cases l_49 with
 | nil =>
  have hk : ¬ ((k_48 : Int) < (p1_order.length : Int)) := by have := List.drop_eq_nil_iff.1 hl; omega
  have hkb := decide_eq_false hk
  rw [m_code_cut_v2c74xs_L1.eq_1] at hm
  refine wS (wR ?_)
  refine lV (.bool (decide ((k_48 : Int) < (p1_order.length : Int)))) (r_lss (k_48 : Int) (p1_order.length : Int) rfl rfl) ?_
  refine lN (wS ?_)
  refine wcondF (congrArg Value.bool hkb) ?_
  refine wexit (inB_hit ?_)
  refine wS ?_
  refine wmix (col := col_51) [(0, 1), (1, 0), (2, 1), (3, 2), (4, 1)] (by kernel_rfl) (by kernel_rfl) ?_
  refine xu (v := (.slice a_93 values_92.length cap_94)) rfl rfl (fun _ => r_move rfl) ?_
  refine xv (v := (.agg #[(.bool s_52), (.slice a_54 s_53.length cap_55), (.slice a_58 s_57.length cap_59), (.bool s_61), (.slice a_63 s_62.length cap_64), (.slice a_67 s_66.length cap_68)])) rfl rfl (fun _ hC => r_ldN Tryz.isAgg62 Tryz.sizeOf62 rfl rfl (hb_47.atN.gr (Grow.of_below (col := col_51) hC.below))) ?_
  refine xu (v := (.slice a_93 values_92.length cap_94)) rfl rfl (fun _ => r_assign rfl) ?_
  refine xe rfl rfl ?_
  intro w_98 hC0
  have hC : Grow col_51 w_50 col_51 w_98 := .of_below hC0.below
  replace hb_10 := hb_10.gr hC
  refine l_bstore (v := (.agg #[(.bool s_52), (.slice a_54 s_53.length cap_55), (.slice a_58 s_57.length cap_59), (.bool s_61), (.slice a_63 s_62.length cap_64), (.slice a_67 s_66.length cap_68)])) hb_10 Tryz.sizeOf62 rfl rfl (by intro u hu; simp only [Value.cells, List.mem_cons, List.not_mem_nil, or_false] at hu; rcases hu with rfl | rfl | rfl | rfl | rfl | rfl <;> rfl) rfl rfl ?_
  intro w_99 hk_100 hs_101 hb_102
  clear hb_10
  replace hb_102 : Box 62 2 col_51 w_99 g_6 #[(.bool s_52), (.slice a_54 s_53.length cap_55), (.slice a_58 s_57.length cap_59), (.bool s_61), (.slice a_63 s_62.length cap_64), (.slice a_67 s_66.length cap_68)] := hb_102
  refine lN ⟨fun w' => Grow col_51 w_99 col_51 w', Grow.refl _ _, fun h => absurd h (by decide), ?_⟩
  refine xu (v := (.bool true)) rfl rfl (fun _ => r_assign rfl) ?_
  refine xnil ?_
  replace h_56 := (h_56.gr hC).kp hk_100
  replace h_60 := (h_60.gr hC).kp hk_100
  replace h_65 := (h_65.gr hC).kp hk_100
  replace h_69 := (h_69.gr hC).kp hk_100
  replace h_95 := (h_95.gr hC).kp hk_100
  replace hst := (hst.grow hC).kp hk_100 hs_101
  intro w_103 hC
  replace hC : Grow col_51 w_99 col_51 w_103 := .of_below hC.below
  refine wret ?_
  cases hm
  replace h_56 := h_56.gr hC
  replace h_60 := h_60.gr hC
  replace h_65 := h_65.gr hC
  replace h_69 := h_69.gr hC
  replace h_95 := h_95.gr hC
  replace hb_102 := hb_102.gr hC
  replace hst := hst.grow hC
  exact ⟨rfl, _, res_tat rfl rfl rfl rfl Tryz.isAgg62 Tryz.sizeOf62 rfl rfl hb_102.atN rfl rfl, colF w0.heap.size col col_51 (fun n => bif Nat.beq n 3 then c1 else 0), a_93, cap_94, a_54, cap_55, a_58, cap_59, a_63, cap_64, a_67, cap_68, rfl, hst.fin (fun n => bif Nat.beq n 3 then c1 else 0), hst.finOwn (g := (fun n => bif Nat.beq n 3 then c1 else 0)) rfl h_95 (by decide) (by decide) rfl, hst.finSl (g := (fun n => bif Nat.beq n 3 then c1 else 0)) rfl h_56, hst.finSl (g := (fun n => bif Nat.beq n 3 then c1 else 0)) rfl h_60, hst.finSl (g := (fun n => bif Nat.beq n 3 then c1 else 0)) rfl h_65, hst.finSl (g := (fun n => bif Nat.beq n 3 then c1 else 0)) rfl h_69⟩
 | cons x_96 l_97 =>
  obtain ⟨hat, hl2_L1, hlt_L1⟩ := drop_get hl
  have hk : (k_48 : Int) < (p1_order.length : Int) := by omega
  have hkb := decide_eq_true hk
  rw [m_code_cut_v2c74xs_L1.eq_2] at hm
  refine wS (wR ?_)
  refine lV (.bool (decide ((k_48 : Int) < (p1_order.length : Int)))) (r_lss (k_48 : Int) (p1_order.length : Int) rfl rfl) ?_
  refine lN (wS ?_)
  refine wcondT (congrArg Value.bool hkb) ?_
  refine wK (wS (wB (wS (wR ?_))))
  refine lV (sptr a1 (Int.toNat (k_48 : Int) * 1)) (r_idx Tryz.underlying33 Tryz.sizeOf3 rfl rfl (at?_some hat).1 (at?_some hat).2.1 (h1.addr hat)) ?_
  refine lV (.int .i64 x_96) (r_ld Tryz.isAgg3 rfl (h1.atInt hat)) ?_
  refine lA (.int .i64 x_96) ?_
  refine lN (wS (wR ?_))
  refine lA (.int .i64 0) ?_
  refine lN (wS (wS (wR ?_)))
  refine lV (.pointer ((some (⟨g_1, 0, none⟩ : Addr)).map (·.add 3))) (rF (sz := 1) (off := 3) Tryz.underlying28 rfl Tryz.sizeOf25 (by decide) rfl rfl ⟨_, _, rfl⟩) ?_
  refine lV (.slice a0_4 p0_n.2.2.2.1.length cap0_4) (r_ld Tryz.isAgg25 rfl ((hb_5.atN).nth (q := 3) (v := (.slice a0_4 p0_n.2.2.2.1.length cap0_4)) rfl)) ?_
  refine lM (.int .i64 x_96) ?_
  obtain ⟨e_104, hj_105, hm⟩ := bS hm
  refine lV (sptr a0_4 (Int.toNat x_96 * 1)) (r_idx Tryz.underlying25 Tryz.sizeOf33 rfl rfl (at?_some hj_105).1 (at?_some hj_105).2.1 (h0_4.addr hj_105)) ?_
  obtain ⟨_, hr_106, hA_107⟩ := h0_4.atN hj_105
  obtain ⟨⟨a_108, cap_109, rfl, h_110⟩, _⟩ := hr_106
  refine lV (.slice a_108 e_104.length cap_109) (r_ld Tryz.isAgg33 rfl hA_107.one) ?_
  refine lV (.int .i64 (e_104.length : Int)) (r_len Tryz.underlying33 rfl) ?_
  refine lM (.int .i64 0) ?_
  refine lN (wB ?_)
  refine wloop (fun n f w_113 => ∃ (col_114 : Col) (row_115 : Int) (k_111 : Nat) (l_112 : List Int), n = l_112.length ∧ e_104.drop k_111 = l_112 ∧ m_code_cut_v2c74xs_L2 N p0_n s_52 s_53 s_57 s_61 s_62 s_66 n_70 v_74 v_75 v_79 v_83 v_84 v_88 values_92 (m_code_cut_v2c74xs_L1 N p0_n l_97) x_96 l_112 row_115 = some r ∧ St w0 (col0 col) col_114 w_113 ∧ Sl (Rep.int .u32) col_114 w_113 a_54 cap_55 s_53 ∧ Sl (Rep.int .u32) col_114 w_113 a_58 cap_59 s_57 ∧ Sl (Rep.int .u32) col_114 w_113 a_63 cap_64 s_62 ∧ Sl (Rep.int .u32) col_114 w_113 a_67 cap_68 s_66 ∧ Box 62 8 col_114 w_113 g_39 #[(.bool s_52), (.slice a_54 s_53.length cap_55), (.slice a_58 s_57.length cap_59), (.bool s_61), (.slice a_63 s_62.length cap_64), (.slice a_67 s_66.length cap_68)] ∧ Sl (Rep.int .i64) col_114 w_113 a_71 cap_72 n_70 ∧ Box 33 999 col_114 w_113 g3 #[(.slice a_71 n_70.length cap_72)] ∧ Sl (Rep.int .i64) col_114 w_113 a1 cap1 p1_order ∧ Sl Rep.str col_114 w_113 a0_0 cap0_0 p0_n.2.1 ∧ Sl (Rep.slice Rep.str) col_114 w_113 a0_2 cap0_2 p0_n.2.2.1 ∧ Sl (Rep.slice (Rep.int .i64)) col_114 w_113 a0_4 cap0_4 p0_n.2.2.2.1 ∧ Sl (Rep.slice (Rep.pair (Rep.pair Rep.bool (Rep.slice (Rep.int .u32))) (Rep.slice (Rep.int .u32)))) col_114 w_113 a0_6 cap0_6 p0_n.2.2.2.2 ∧ Box 28 1 col_114 w_113 g_1 #[(.string p0_n.1), (.slice a0_0 p0_n.2.1.length cap0_0), (.slice a0_2 p0_n.2.2.1.length cap0_2), (.slice a0_4 p0_n.2.2.2.1.length cap0_4), (.slice a0_6 p0_n.2.2.2.2.length cap0_6)] ∧ Sl (Rep.int .i64) col_114 w_113 a_108 cap_109 e_104 ∧ Own (Rep.int .u32) 114 9 col_114 w_113 a_76 cap_77 v_75 ∧ Own (Rep.int .u32) 114 10 col_114 w_113 a_80 cap_81 v_79 ∧ Own (Rep.int .u32) 114 11 col_114 w_113 a_85 cap_86 v_84 ∧ Own (Rep.int .u32) 114 12 col_114 w_113 a_89 cap_90 v_88 ∧ Box 62 2 col_114 w_113 g_6 #[(.bool v_74), (.slice a_76 v_75.length cap_77), (.slice a_80 v_79.length cap_81), (.bool v_83), (.slice a_85 v_84.length cap_86), (.slice a_89 v_88.length cap_90)] ∧ Own (Rep.int .i64) 3 3 col_114 w_113 a_93 cap_94 values_92 ∧ f 41 = (.int .i64 (k_111 : Int)) ∧ f 10 = (.pointer (some ⟨g_39, 0, none⟩)) ∧ f 12 = (.int .i64 x_96) ∧ f 13 = (.int .i64 row_115) ∧ f 2 = (.func (.func 74) #[] #[(.pointer (some ⟨g3, 0, none⟩))]) ∧ f 29 = (.slice a1 p1_order.length cap1) ∧ f 3 = (.pointer (some ⟨g_1, 0, none⟩)) ∧ f 30 = (.int .i64 (p1_order.length : Int)) ∧ f 31 = (.int .i64 (k_48 : Int)) ∧ f 39 = (.slice a_108 e_104.length cap_109) ∧ f 40 = (.int .i64 (e_104.length : Int)) ∧ f 7 = (.pointer (some ⟨g_6, 0, none⟩)) ∧ f 9 = (.slice a_93 values_92.length cap_94) ∧ f 1000000 = (enc [])) e_104.length ⟨col_51, 0, 0, e_104, rfl, rfl, hm, hst, h_56, h_60, h_65, h_69, hb_47, h_73, hb3, h1, h0_0, h0_2, h0_4, h0_6, hb_5, h_110, h_78, h_82, h_87, h_91, hb_10, h_95, rfl, rfl, rfl, rfl, rfl, rfl, rfl, rfl, rfl, rfl, rfl, rfl, rfl, rfl⟩ ?_
  clear hm; intro n f w_113 hI
  obtain ⟨col_114, row_115, k_111, l_112, hn, hl, hm, hst, h_56, h_60, h_65, h_69, hb_47, h_73, hb3, h1, h0_0, h0_2, h0_4, h0_6, hb_5, h_110, h_78, h_82, h_87, h_91, hb_10, h_95, hs41, hs10, hs12, hs13, hs2, hs29, hs3, hs30, hs31, hs39, hs40, hs7, hs9, hs1000000⟩ := hI
  subst hn
  refine .lD 41 hs41 ?_
  refine .lD 10 hs10 ?_
  refine .lD 12 hs12 ?_
  refine .lD 13 hs13 ?_
  refine .lD 2 hs2 ?_
  refine .lD 29 hs29 ?_
  refine .lD 3 hs3 ?_
  refine .lD 30 hs30 ?_
  refine .lD 31 hs31 ?_
  refine .lD 39 hs39 ?_
  refine .lD 40 hs40 ?_
  refine .lD 7 hs7 ?_
  refine .lD 9 hs9 ?_
  refine .lD 1000000 hs1000000 ?_
  clear hs41 hs10 hs12 hs13 hs2 hs29 hs3 hs30 hs31 hs39 hs40 hs7 hs9 hs1000000
  cases l_112 with
  | nil =>
   have hk : ¬ ((k_111 : Int) < (e_104.length : Int)) := by have := List.drop_eq_nil_iff.1 hl; omega
   have hkb := decide_eq_false hk
   rw [m_code_cut_v2c74xs_L2.eq_1] at hm
   refine wS (wR ?_)
   refine lV (.bool (decide ((k_111 : Int) < (e_104.length : Int)))) (r_lss (k_111 : Int) (e_104.length : Int) rfl rfl) ?_
   refine lN (wS ?_)
   refine wcondF (congrArg Value.bool hkb) ?_
   refine wexit (inB_hit ?_)
   refine wS (wR ?_)
   refine lV (.pointer ((some (⟨g_39, 0, none⟩ : Addr)).map (·.add 3))) (rF (sz := 3) (off := 3) Tryz.underlying62 rfl Tryz.sizeOf40 (by decide) rfl rfl ⟨_, _, rfl⟩) ?_
   refine lV (.agg #[(.bool s_61), (.slice a_63 s_62.length cap_64), (.slice a_67 s_66.length cap_68)]) (r_ldN Tryz.isAgg40 Tryz.sizeOf40 rfl rfl ((hb_47.atN).part 3 3 _ rfl)) ?_
   refine lV (.pointer ((some (⟨g_39, 0, none⟩ : Addr)).map (·.add 0))) (rF (sz := 3) (off := 0) Tryz.underlying62 rfl Tryz.sizeOf40 (by decide) rfl rfl ⟨_, _, rfl⟩) ?_
   refine lV (.agg #[(.bool s_52), (.slice a_54 s_53.length cap_55), (.slice a_58 s_57.length cap_59)]) (r_ldN Tryz.isAgg40 Tryz.sizeOf40 rfl rfl ((hb_47.atN).part 0 3 _ rfl)) ?_
   obtain ⟨r_118, hr_119, hm⟩ := bS hm
   refine lc rfl rfl (r_call2 Tryz.call61 rfl rfl) (c_frac_Sub N 13 14 col_114 _ a_63 cap_64 a_67 cap_68 ((s_61, s_62), s_66) a_54 cap_55 a_58 cap_59 ((s_52, s_53), s_57) h_65 h_69 h_56 h_60 r_118 hr_119) ?_
   rintro _ w_126 ⟨col_128, ra_120, rc_121, ra_123, rc_124, rfl, hg_127, rh_122, rh_125⟩
   refine ⟨_, rfl, ?_⟩
   refine l_alloc (col := col_128) (v := (.agg #[(.bool false), (.slice none (([] : List Int).length) 0), (.slice none (([] : List Int).length) 0)])) 15 rfl Tryz.zeroValue40 ?_
   intro g_129 w_130 col_131 hg_132 hb_133
   replace hb_133 : Box 40 15 col_131 w_130 g_129 #[(.bool false), (.slice none (([] : List Int).length) 0), (.slice none (([] : List Int).length) 0)] := hb_133
   refine l_bstore (v := (.agg #[(.bool r_118.1.1), (.slice ra_120 r_118.1.2.length rc_121), (.slice ra_123 r_118.2.length rc_124)])) hb_133 Tryz.sizeOf40 rfl rfl (by intro u hu; simp only [Value.cells, List.mem_cons, List.not_mem_nil, or_false] at hu; rcases hu with rfl | rfl | rfl <;> rfl) rfl rfl ?_
   intro w_134 hk_135 hs_136 hb_137
   clear hb_133
   replace hb_137 : Box 40 15 col_131 w_134 g_129 #[(.bool r_118.1.1), (.slice ra_120 r_118.1.2.length rc_121), (.slice ra_123 r_118.2.length rc_124)] := hb_137
   refine lN (wS (wR ?_))
   refine lV (.pointer ((some (⟨g_39, 0, none⟩ : Addr)).map (·.add 0))) (rF (sz := 3) (off := 0) Tryz.underlying62 rfl Tryz.sizeOf40 (by decide) rfl rfl ⟨_, _, rfl⟩) ?_
   replace hb_47 := ((hb_47.gr hg_127).gr hg_132).kp hk_135
   refine lV (.agg #[(.bool s_52), (.slice a_54 s_53.length cap_55), (.slice a_58 s_57.length cap_59)]) (r_ldN Tryz.isAgg40 Tryz.sizeOf40 rfl rfl ((hb_47.atN).part 0 3 _ rfl)) ?_
   refine l_alloc (col := col_131) (v := (.agg #[(.bool false), (.slice none (([] : List Int).length) 0), (.slice none (([] : List Int).length) 0)])) 16 rfl Tryz.zeroValue40 ?_
   intro g_138 w_139 col_140 hg_141 hb_142
   replace hb_142 : Box 40 16 col_140 w_139 g_138 #[(.bool false), (.slice none (([] : List Int).length) 0), (.slice none (([] : List Int).length) 0)] := hb_142
   refine l_bstore (v := (.agg #[(.bool s_52), (.slice a_54 s_53.length cap_55), (.slice a_58 s_57.length cap_59)])) hb_142 Tryz.sizeOf40 rfl rfl (by intro u hu; simp only [Value.cells, List.mem_cons, List.not_mem_nil, or_false] at hu; rcases hu with rfl | rfl | rfl <;> rfl) rfl rfl ?_
   intro w_143 hk_144 hs_145 hb_146
   clear hb_142
   replace hb_146 : Box 40 16 col_140 w_143 g_138 #[(.bool s_52), (.slice a_54 s_53.length cap_55), (.slice a_58 s_57.length cap_59)] := hb_146
   refine lN (wS (wR ?_))
   refine lA (.slice none (([] : List (((Bool × (List Int)) × (List Int)) × ((Bool × (List Int)) × (List Int)))).length) 0) ?_
   refine lN (wS (wS (wR ?_)))
   refine lV (.pointer ((some (⟨g_1, 0, none⟩ : Addr)).map (·.add 2))) (rF (sz := 1) (off := 2) Tryz.underlying28 rfl Tryz.sizeOf24 (by decide) rfl rfl ⟨_, _, rfl⟩) ?_
   replace hb_5 := ((((hb_5.gr hg_127).gr hg_132).kp hk_135).gr hg_141).kp hk_144
   refine lV (.slice a0_2 p0_n.2.2.1.length cap0_2) (r_ld Tryz.isAgg24 rfl ((hb_5.atN).nth (q := 2) (v := (.slice a0_2 p0_n.2.2.1.length cap0_2)) rfl)) ?_
   refine lM (.int .i64 x_96) ?_
   obtain ⟨e_147, hj_148, hm⟩ := bS hm
   replace h0_2 := ((((h0_2.gr hg_127).gr hg_132).kp hk_135).gr hg_141).kp hk_144
   refine lV (sptr a0_2 (Int.toNat x_96 * 1)) (r_idx Tryz.underlying24 Tryz.sizeOf23 rfl rfl (at?_some hj_148).1 (at?_some hj_148).2.1 (h0_2.addr hj_148)) ?_
   obtain ⟨_, hr_149, hA_150⟩ := h0_2.atN hj_148
   obtain ⟨⟨a_151, cap_152, rfl, h_153⟩, _⟩ := hr_149
   refine lV (.slice a_151 e_147.length cap_152) (r_ld Tryz.isAgg23 rfl hA_150.one) ?_
   refine lV (.int .i64 (e_147.length : Int)) (r_len Tryz.underlying23 rfl) ?_
   refine lM (.int .i64 0) ?_
   refine lN (wB ?_)
   replace h_56 := ((((h_56.gr hg_127).gr hg_132).kp hk_135).gr hg_141).kp hk_144
   replace h_60 := ((((h_60.gr hg_127).gr hg_132).kp hk_135).gr hg_141).kp hk_144
   replace h_65 := ((((h_65.gr hg_127).gr hg_132).kp hk_135).gr hg_141).kp hk_144
   replace h_69 := ((((h_69.gr hg_127).gr hg_132).kp hk_135).gr hg_141).kp hk_144
   replace h_73 := ((((h_73.gr hg_127).gr hg_132).kp hk_135).gr hg_141).kp hk_144
   replace h1 := ((((h1.gr hg_127).gr hg_132).kp hk_135).gr hg_141).kp hk_144
   replace h0_0 := ((((h0_0.gr hg_127).gr hg_132).kp hk_135).gr hg_141).kp hk_144
   replace h0_4 := ((((h0_4.gr hg_127).gr hg_132).kp hk_135).gr hg_141).kp hk_144
   replace h0_6 := ((((h0_6.gr hg_127).gr hg_132).kp hk_135).gr hg_141).kp hk_144
   replace h_78 := ((((h_78.gr hg_127).gr hg_132).kp hk_135).gr hg_141).kp hk_144
   replace h_82 := ((((h_82.gr hg_127).gr hg_132).kp hk_135).gr hg_141).kp hk_144
   replace h_87 := ((((h_87.gr hg_127).gr hg_132).kp hk_135).gr hg_141).kp hk_144
   replace h_91 := ((((h_91.gr hg_127).gr hg_132).kp hk_135).gr hg_141).kp hk_144
   replace h_95 := ((((h_95.gr hg_127).gr hg_132).kp hk_135).gr hg_141).kp hk_144
   replace hb3 := ((((hb3.gr hg_127).gr hg_132).kp hk_135).gr hg_141).kp hk_144
   replace hb_10 := ((((hb_10.gr hg_127).gr hg_132).kp hk_135).gr hg_141).kp hk_144
   replace hst := ((((hst.grow hg_127).grow hg_132).kp hk_135 hs_136).grow hg_141).kp hk_144 hs_145
   replace rh_122 := (((rh_122.gr hg_132).kp hk_135).gr hg_141).kp hk_144
   replace rh_125 := (((rh_125.gr hg_132).kp hk_135).gr hg_141).kp hk_144
   replace hb_47 := (hb_47.gr hg_141).kp hk_144
   replace hb_137 := (hb_137.gr hg_141).kp hk_144
   refine wloop (fun n f w_155 => ∃ (col_156 : Col) (at_157 : Bool) (a_159 : Option Addr) (cap_160 : Nat) (at_158 : List Int) (a_163 : Option Addr) (cap_164 : Nat) (at_162 : List Int) (a_167 : Option Addr) (cap_168 : Nat) (parts_166 : List (((Bool × (List Int)) × (List Int)) × ((Bool × (List Int)) × (List Int)))) (v_170 : Int) (n_154 : Nat), n_154 = n ∧ m_code_cut_v2c74xs_L3 N p0_n n_70 v_74 v_75 v_79 v_83 v_84 v_88 values_92 (m_code_cut_v2c74xs_L1 N p0_n l_97) x_96 row_115 r_118 e_147 n_154 at_157 at_158 at_162 parts_166 v_170 = some r ∧ St w0 (col0 col) col_156 w_155 ∧ Sl (Rep.int .u32) col_156 w_155 a_54 cap_55 s_53 ∧ Sl (Rep.int .u32) col_156 w_155 a_58 cap_59 s_57 ∧ Sl (Rep.int .u32) col_156 w_155 a_63 cap_64 s_62 ∧ Sl (Rep.int .u32) col_156 w_155 a_67 cap_68 s_66 ∧ Box 62 8 col_156 w_155 g_39 #[(.bool s_52), (.slice a_54 s_53.length cap_55), (.slice a_58 s_57.length cap_59), (.bool s_61), (.slice a_63 s_62.length cap_64), (.slice a_67 s_66.length cap_68)] ∧ Own (Rep.int .u32) 114 13 col_156 w_155 ra_120 rc_121 r_118.1.2 ∧ Own (Rep.int .u32) 114 14 col_156 w_155 ra_123 rc_124 r_118.2 ∧ Box 40 15 col_156 w_155 g_129 #[(.bool r_118.1.1), (.slice ra_120 r_118.1.2.length rc_121), (.slice ra_123 r_118.2.length rc_124)] ∧ Sl (Rep.int .u32) col_156 w_155 a_159 cap_160 at_158 ∧ Sl (Rep.int .u32) col_156 w_155 a_163 cap_164 at_162 ∧ Box 40 16 col_156 w_155 g_138 #[(.bool at_157), (.slice a_159 at_158.length cap_160), (.slice a_163 at_162.length cap_164)] ∧ Own (Rep.pair (Rep.pair (Rep.pair Rep.bool (Rep.slice (Rep.int .u32))) (Rep.slice (Rep.int .u32))) (Rep.pair (Rep.pair Rep.bool (Rep.slice (Rep.int .u32))) (Rep.slice (Rep.int .u32)))) 62 17 col_156 w_155 a_167 cap_168 parts_166 ∧ Sl (Rep.int .i64) col_156 w_155 a_71 cap_72 n_70 ∧ Box 33 999 col_156 w_155 g3 #[(.slice a_71 n_70.length cap_72)] ∧ Sl (Rep.int .i64) col_156 w_155 a1 cap1 p1_order ∧ Sl Rep.str col_156 w_155 a0_0 cap0_0 p0_n.2.1 ∧ Sl (Rep.slice Rep.str) col_156 w_155 a0_2 cap0_2 p0_n.2.2.1 ∧ Sl (Rep.slice (Rep.int .i64)) col_156 w_155 a0_4 cap0_4 p0_n.2.2.2.1 ∧ Sl (Rep.slice (Rep.pair (Rep.pair Rep.bool (Rep.slice (Rep.int .u32))) (Rep.slice (Rep.int .u32)))) col_156 w_155 a0_6 cap0_6 p0_n.2.2.2.2 ∧ Box 28 1 col_156 w_155 g_1 #[(.string p0_n.1), (.slice a0_0 p0_n.2.1.length cap0_0), (.slice a0_2 p0_n.2.2.1.length cap0_2), (.slice a0_4 p0_n.2.2.2.1.length cap0_4), (.slice a0_6 p0_n.2.2.2.2.length cap0_6)] ∧ Own (Rep.int .u32) 114 9 col_156 w_155 a_76 cap_77 v_75 ∧ Own (Rep.int .u32) 114 10 col_156 w_155 a_80 cap_81 v_79 ∧ Own (Rep.int .u32) 114 11 col_156 w_155 a_85 cap_86 v_84 ∧ Own (Rep.int .u32) 114 12 col_156 w_155 a_89 cap_90 v_88 ∧ Box 62 2 col_156 w_155 g_6 #[(.bool v_74), (.slice a_76 v_75.length cap_77), (.slice a_80 v_79.length cap_81), (.bool v_83), (.slice a_85 v_84.length cap_86), (.slice a_89 v_88.length cap_90)] ∧ Own (Rep.int .i64) 3 3 col_156 w_155 a_93 cap_94 values_92 ∧ f 10 = (.pointer (some ⟨g_39, 0, none⟩)) ∧ f 12 = (.int .i64 x_96) ∧ f 13 = (.int .i64 row_115) ∧ f 16 = (.pointer (some ⟨g_129, 0, none⟩)) ∧ f 17 = (.pointer (some ⟨g_138, 0, none⟩)) ∧ f 18 = (.slice a_167 parts_166.length cap_168) ∧ f 2 = (.func (.func 74) #[] #[(.pointer (some ⟨g3, 0, none⟩))]) ∧ f 29 = (.slice a1 p1_order.length cap1) ∧ f 3 = (.pointer (some ⟨g_1, 0, none⟩)) ∧ f 30 = (.int .i64 (p1_order.length : Int)) ∧ f 31 = (.int .i64 (k_48 : Int)) ∧ f 7 = (.pointer (some ⟨g_6, 0, none⟩)) ∧ f 71 = (.int .i64 (e_147.length : Int)) ∧ f 72 = (.int .i64 v_170) ∧ f 9 = (.slice a_93 values_92.length cap_94) ∧ f 1000000 = (enc [])) N ⟨col_140, s_52, a_54, cap_55, s_53, a_58, cap_59, s_57, none, 0, ([] : List (((Bool × (List Int)) × (List Int)) × ((Bool × (List Int)) × (List Int)))), 0, N, rfl, hm, hst, h_56, h_60, h_65, h_69, hb_47, rh_122, rh_125, hb_137, h_56, h_60, hb_146, Own.nil, h_73, hb3, h1, h0_0, h0_2, h0_4, h0_6, hb_5, h_78, h_82, h_87, h_91, hb_10, h_95, rfl, rfl, rfl, rfl, rfl, rfl, rfl, rfl, rfl, rfl, rfl, rfl, rfl, rfl, rfl, rfl⟩ ?_
   clear hm; intro n f w_155 hI
   obtain ⟨col_156, at_157, a_159, cap_160, at_158, a_163, cap_164, at_162, a_167, cap_168, parts_166, v_170, n_154, hn, hm, hst, h_56, h_60, h_65, h_69, hb_47, rh_122, rh_125, hb_137, h_161, h_165, hb_146, h_169, h_73, hb3, h1, h0_0, h0_2, h0_4, h0_6, hb_5, h_78, h_82, h_87, h_91, hb_10, h_95, hs10, hs12, hs13, hs16, hs17, hs18, hs2, hs29, hs3, hs30, hs31, hs7, hs71, hs72, hs9, hs1000000⟩ := hI
   subst hn
   refine .lD 10 hs10 ?_
   refine .lD 12 hs12 ?_
   refine .lD 13 hs13 ?_
   refine .lD 16 hs16 ?_
   refine .lD 17 hs17 ?_
   refine .lD 18 hs18 ?_
   refine .lD 2 hs2 ?_
   refine .lD 29 hs29 ?_
   refine .lD 3 hs3 ?_
   refine .lD 30 hs30 ?_
   refine .lD 31 hs31 ?_
   refine .lD 7 hs7 ?_
   refine .lD 71 hs71 ?_
   refine .lD 72 hs72 ?_
   refine .lD 9 hs9 ?_
   refine .lD 1000000 hs1000000 ?_
   clear hs10 hs12 hs13 hs16 hs17 hs18 hs2 hs29 hs3 hs30 hs31 hs7 hs71 hs72 hs9 hs1000000
   cases n_154 with
   | zero => rw [m_code_cut_v2c74xs_L3.eq_1] at hm; cases hm
   | succ n_154 =>
    rw [m_code_cut_v2c74xs_L3.eq_2] at hm
    refine wS (wR ?_)
    refine lV (.bool (decide (v_170 < (e_147.length : Int)))) (r_lss v_170 (e_147.length : Int) rfl rfl) ?_
    refine lN (wS ?_)
    refine wcond (decide (v_170 < (e_147.length : Int))) rfl (fun hb => ?_) (fun hb => ?_)
    ·rw [if_pos hb] at hm
     clear hb
     refine wK (wS (wB (wS (wR ?_))))
     refine lM (.int .i64 v_170) ?_
     refine lA (.int .i64 v_170) ?_
     refine lN (wS ?_)
     have hk_171 := KeepP.clip (fun _ => false) col_156 w_155
     refine wmixF (col := col_156) [(0, 0), (1, 0), (2, 1), (3, 0), (4, 1), (5, 1), (6, 0), (7, 1), (8, 1), (9, 0), (10, 1), (11, 1), (12, 0), (13, 1), (14, 1), (15, 1), (16, 1), (17, 1), (18, 0), (19, 3), (20, 3), (21, 4), (22, 2)] (by kernel_rfl) (by kernel_rfl) ⟨fun h => absurd h (by decide), fun h => absurd h (by decide), fun h => absurd h (by decide), fun h => absurd h (by decide), fun h => absurd h (by decide), fun h => absurd h (by decide), fun h => absurd h (by decide), fun h => absurd h (by decide), fun h => absurd h (by decide), fun h => absurd h (by decide), fun h => absurd h (by decide), fun h => absurd h (by decide), fun h => absurd h (by decide), fun h => absurd h (by decide), fun h => absurd h (by decide), fun h => absurd h (by decide), fun h => absurd h (by decide), fun h => absurd h (by decide), fun h => absurd h (by decide), fun h => absurd h (by decide), fun h => absurd h (by decide), fun _ => ⟨_, _, _, rfl, free_alloc Tryz.zeroValue40⟩, fun h => absurd h (by decide), trivial⟩ ?_
     replace hb_146 := hb_146.kpp hk_171
     refine xvF (v := (.agg #[(.bool at_157), (.slice a_159 at_158.length cap_160), (.slice a_163 at_162.length cap_164)])) rfl rfl (fun _ hC => r_ldN Tryz.isAgg40 Tryz.sizeOf40 rfl rfl (hb_146.atN.gr (Grow.of_below (col := (clipC w_155 col_156)) hC.below))) ?_
     replace hb_137 := hb_137.kpp hk_171
     refine xvF (v := (.agg #[(.bool r_118.1.1), (.slice ra_120 r_118.1.2.length rc_121), (.slice ra_123 r_118.2.length rc_124)])) rfl rfl (fun _ hC => r_ldN Tryz.isAgg40 Tryz.sizeOf40 rfl rfl (hb_137.atN.gr (Grow.of_below (col := (clipC w_155 col_156)) hC.below))) ?_
     refine xuF (v := (.pointer ((some (⟨g_1, 0, none⟩ : Addr)).map (·.add 4)))) rfl rfl (fun _ => rF (sz := 1) (off := 4) Tryz.underlying28 rfl Tryz.sizeOf26 (by decide) rfl rfl ⟨_, _, rfl⟩) ?_
     replace hb_5 := hb_5.kpp hk_171
     refine xvF (v := (.slice a0_6 p0_n.2.2.2.2.length cap0_6)) rfl rfl (fun _ hC => r_ld Tryz.isAgg26 rfl (((hb_5.atN).nth (q := 4) (v := (.slice a0_6 p0_n.2.2.2.2.length cap0_6)) rfl).gr (Grow.of_below (col := (clipC w_155 col_156)) hC.below))) ?_
     refine xuF (v := (.int .i64 x_96)) rfl rfl (fun _ => r_move rfl) ?_
     obtain ⟨e_172, hj_173, hm⟩ := bS hm
     replace h0_6 := h0_6.kpp hk_171
     refine xuF (v := (sptr a0_6 (Int.toNat x_96 * 1))) rfl rfl (fun _ => r_idx Tryz.underlying26 Tryz.sizeOf51 rfl rfl (at?_some hj_173).1 (at?_some hj_173).2.1 (h0_6.addr hj_173)) ?_
     obtain ⟨_, hr_174, hA_175⟩ := h0_6.atN hj_173
     obtain ⟨⟨a_176, cap_177, rfl, h_178⟩, _⟩ := hr_174
     refine xvF (v := (.slice a_176 e_172.length cap_177)) rfl rfl (fun _ hC => r_ld Tryz.isAgg51 rfl (hA_175.one.gr (Grow.of_below (col := (clipC w_155 col_156)) hC.below))) ?_
     refine xuF (v := (.int .i64 row_115)) rfl rfl (fun _ => r_move rfl) ?_
     refine xuF (v := (.pointer ((some (⟨g_1, 0, none⟩ : Addr)).map (·.add 2)))) rfl rfl (fun _ => rF (sz := 1) (off := 2) Tryz.underlying28 rfl Tryz.sizeOf24 (by decide) rfl rfl ⟨_, _, rfl⟩) ?_
     refine xvF (v := (.slice a0_2 p0_n.2.2.1.length cap0_2)) rfl rfl (fun _ hC => r_ld Tryz.isAgg24 rfl (((hb_5.atN).nth (q := 2) (v := (.slice a0_2 p0_n.2.2.1.length cap0_2)) rfl).gr (Grow.of_below (col := (clipC w_155 col_156)) hC.below))) ?_
     refine xuF (v := (.int .i64 x_96)) rfl rfl (fun _ => r_move rfl) ?_
     obtain ⟨e_179, hj_180, hm⟩ := bS hm
     replace h0_2 := h0_2.kpp hk_171
     refine xuF (v := (sptr a0_2 (Int.toNat x_96 * 1))) rfl rfl (fun _ => r_idx Tryz.underlying24 Tryz.sizeOf23 rfl rfl (at?_some hj_180).1 (at?_some hj_180).2.1 (h0_2.addr hj_180)) ?_
     obtain ⟨_, hr_181, hA_182⟩ := h0_2.atN hj_180
     obtain ⟨⟨a_183, cap_184, rfl, h_185⟩, _⟩ := hr_181
     refine xvF (v := (.slice a_183 e_179.length cap_184)) rfl rfl (fun _ hC => r_ld Tryz.isAgg23 rfl (hA_182.one.gr (Grow.of_below (col := (clipC w_155 col_156)) hC.below))) ?_
     refine xuF (v := (.int .i64 (e_179.length : Int))) rfl rfl (fun _ => r_len Tryz.underlying23 rfl) ?_
     refine xuF (v := (.int .i64 (IntKind.i64.wrap (row_115 * (e_179.length : Int))))) rfl rfl (fun _ => r_mul row_115 (e_179.length : Int) rfl rfl) ?_
     refine xuF (v := (.int .i64 v_170)) rfl rfl (fun _ => r_move rfl) ?_
     refine xuF (v := (.int .i64 (IntKind.i64.wrap ((IntKind.i64.wrap (row_115 * (e_179.length : Int))) + v_170)))) rfl rfl (fun _ => r_add (IntKind.i64.wrap (row_115 * (e_179.length : Int))) v_170 rfl rfl) ?_
     obtain ⟨e_186, hj_187, hm⟩ := bS hm
     refine xuF (v := (sptr a_176 (Int.toNat (IntKind.i64.wrap ((IntKind.i64.wrap (row_115 * (e_179.length : Int))) + v_170)) * 3))) rfl rfl (fun _ => r_idx Tryz.underlying51 Tryz.sizeOf40 rfl rfl (at?_some hj_187).1 (at?_some hj_187).2.1 (h_178.addr hj_187)) ?_
     obtain ⟨_, hr_188, hA_189⟩ := h_178.atN hj_187
     obtain ⟨_, _, rfl, hp_190, hp_191⟩ := rd_pair hr_188
     obtain ⟨_, _, rfl, hp_192, hp_193⟩ := rd_pair hp_190
     obtain ⟨rfl, _⟩ := hp_192
     obtain ⟨⟨a_194, cap_195, rfl, h_196⟩, _⟩ := hp_193
     obtain ⟨⟨a_197, cap_198, rfl, h_199⟩, _⟩ := hp_191
     refine xvF (v := (.agg #[(.bool e_186.1.1), (.slice a_194 e_186.1.2.length cap_195), (.slice a_197 e_186.2.length cap_198)])) rfl rfl (fun _ hC => r_ldN Tryz.isAgg40 Tryz.sizeOf40 rfl rfl (hA_189.gr (Grow.of_below (col := (clipC w_155 col_156)) hC.below))) ?_
     refine xeF rfl rfl ?_
     intro w_200 hC0
     have hC : Grow (clipC w_155 col_156) w_155 (clipC w_155 col_156) w_200 := .of_below hC0.below
     obtain ⟨r_201, hr_202, hm⟩ := bS hm
     replace rh_122 := (rh_122.kpp hk_171).gr hC
     replace rh_125 := (rh_125.kpp hk_171).gr hC
     replace h_196 := h_196.gr hC
     replace h_199 := h_199.gr hC
     refine lc rfl rfl (r_call2 Tryz.call35 rfl rfl) (c_frac_Mul N 18 19 (frC 14 (frC 13 (clipC w_155 col_156))) _ ra_120 rc_121 ra_123 rc_124 ((r_118.1.1, r_118.1.2), r_118.2) a_194 cap_195 a_197 cap_198 ((e_186.1.1, e_186.1.2), e_186.2) ((rh_122.toSlF (Froz.int .u32)).froz 14) ((rh_125.froz 13 (by decide)).toSlF (Froz.int .u32)) ((h_196.froz 13).froz 14) ((h_199.froz 13).froz 14) r_201 hr_202) ?_
     rintro _ w_209 ⟨col_211, ra_203, rc_204, ra_206, rc_207, rfl, hg_210, rh_205, rh_208⟩
     refine ⟨_, rfl, ?_⟩
     replace rh_205 := rh_205.thaw (flat_int .u32) hg_210 (((Fz.refl (col := (clipC w_155 col_156))).froz 13).froz 14) (by decide)
     replace rh_208 := rh_208.thaw (flat_int .u32) hg_210 (((Fz.refl (col := (clipC w_155 col_156))).froz 13).froz 14) (by decide)
     replace hg_210 := hg_210.thawR (col := (clipC w_155 col_156))
     generalize colR w_200.heap.size (clipC w_155 col_156) col_211 = col_212 at *
     replace h1 := ((h1.kpp hk_171).gr hC).gr hg_210
     refine lN ⟨fun w' => Grow (clipC w_209 col_212) w_209 (clipC w_209 col_212) w', fun g => (clipC w_209 col_212) g = 497, Grow.refl _ _, good_clip, fun _ => ⟨fun _ h => cls hC0 hg_210 h, fun b hb => hg_210.below.block b hb, fun g h1 h2 => fcl hg_210 g h1 (by first | exact h2 | (simp only [frC, rcC, h2]; rfl))⟩, ?_⟩
     have hk_213 := KeepP.clip (fun _ => false) col_212 w_209
     refine xeF rfl rfl ?_
     intro w_214 hC0
     replace h_56 := (((h_56.kpp hk_171).gr hC).gr hg_210).kpp hk_213
     replace h_60 := (((h_60.kpp hk_171).gr hC).gr hg_210).kpp hk_213
     replace h_65 := (((h_65.kpp hk_171).gr hC).gr hg_210).kpp hk_213
     replace h_69 := (((h_69.kpp hk_171).gr hC).gr hg_210).kpp hk_213
     replace h_161 := (((h_161.kpp hk_171).gr hC).gr hg_210).kpp hk_213
     replace h_165 := (((h_165.kpp hk_171).gr hC).gr hg_210).kpp hk_213
     replace h_169 := (((h_169.kpp hk_171).gr hC).gr hg_210).kpp hk_213
     replace h_73 := (((h_73.kpp hk_171).gr hC).gr hg_210).kpp hk_213
     replace h0_0 := (((h0_0.kpp hk_171).gr hC).gr hg_210).kpp hk_213
     replace h0_4 := (((h0_4.kpp hk_171).gr hC).gr hg_210).kpp hk_213
     replace h_78 := (((h_78.kpp hk_171).gr hC).gr hg_210).kpp hk_213
     replace h_82 := (((h_82.kpp hk_171).gr hC).gr hg_210).kpp hk_213
     replace h_87 := (((h_87.kpp hk_171).gr hC).gr hg_210).kpp hk_213
     replace h_91 := (((h_91.kpp hk_171).gr hC).gr hg_210).kpp hk_213
     replace h_95 := (((h_95.kpp hk_171).gr hC).gr hg_210).kpp hk_213
     replace hb_47 := (((hb_47.kpp hk_171).gr hC).gr hg_210).kpp hk_213
     replace hb3 := (((hb3.kpp hk_171).gr hC).gr hg_210).kpp hk_213
     replace hb_10 := (((hb_10.kpp hk_171).gr hC).gr hg_210).kpp hk_213
     replace hst := (((hst.kpp hk_171).grow hC).grow hg_210).kpp hk_213
     replace h0_2 := ((h0_2.gr hC).gr hg_210).kpp hk_213
     replace h0_6 := ((h0_6.gr hC).gr hg_210).kpp hk_213
     replace hb_137 := ((hb_137.gr hC).gr hg_210).kpp hk_213
     replace hb_146 := ((hb_146.gr hC).gr hg_210).kpp hk_213
     replace hb_5 := ((hb_5.gr hC).gr hg_210).kpp hk_213
     have hC : Grow (clipC w_209 col_212) w_209 (clipC w_209 col_212) w_214 := .of_below hC0.below
     obtain ⟨r_215, hr_216, hm⟩ := bS hm
     replace rh_205 := (rh_205.kpp hk_213).gr hC
     replace rh_208 := (rh_208.kpp hk_213).gr hC
     replace h_161 := h_161.gr hC
     replace h_165 := h_165.gr hC
     refine lc rfl rfl (r_call2 Tryz.call27 rfl rfl) (c_frac_Add N 20 21 (frC 19 (frC 18 (clipC w_209 col_212))) _ a_159 cap_160 a_163 cap_164 ((at_157, at_158), at_162) ra_203 rc_204 ra_206 rc_207 ((r_201.1.1, r_201.1.2), r_201.2) ((h_161.froz 18).froz 19) ((h_165.froz 18).froz 19) ((rh_205.toSlF (Froz.int .u32)).froz 19) ((rh_208.froz 18 (by decide)).toSlF (Froz.int .u32)) r_215 hr_216) ?_
     rintro _ w_223 ⟨col_225, ra_217, rc_218, ra_220, rc_221, rfl, hg_224, rh_219, rh_222⟩
     refine ⟨_, rfl, ?_⟩
     replace rh_219 := rh_219.thaw (flat_int .u32) hg_224 (((Fz.refl (col := (clipC w_209 col_212))).froz 18).froz 19) (by decide)
     replace rh_222 := rh_222.thaw (flat_int .u32) hg_224 (((Fz.refl (col := (clipC w_209 col_212))).froz 18).froz 19) (by decide)
     replace hg_224 := hg_224.thawR (col := (clipC w_209 col_212))
     generalize colR w_214.heap.size (clipC w_209 col_212) col_225 = col_226 at *
     replace h1 := ((h1.kpp hk_213).gr hC).gr hg_224
     refine lN ⟨fun w' => Grow (clipC w_223 col_226) w_223 (clipC w_223 col_226) w', fun g => (clipC w_223 col_226) g = 497, Grow.refl _ _, good_clip, fun _ => ⟨fun _ h => cls hC0 hg_224 h, fun b hb => hg_224.below.block b hb, fun g h1 h2 => fcl hg_224 g h1 (by first | exact h2 | (simp only [frC, rcC, h2]; rfl))⟩, ?_⟩
     have hk_227 := KeepP.clip (fun _ => false) col_226 w_223
     refine xaF rfl rfl (free_alloc Tryz.zeroValue40) ?_
     intro g_228 hF_229
     refine xeF rfl rfl ?_
     intro w_230 ⟨hC0, hZ0⟩
     replace rh_122 := ((((rh_122.gr hg_210).kpp hk_213).gr hC).gr hg_224).kpp hk_227
     replace rh_125 := ((((rh_125.gr hg_210).kpp hk_213).gr hC).gr hg_224).kpp hk_227
     replace h_56 := ((h_56.gr hC).gr hg_224).kpp hk_227
     replace h_60 := ((h_60.gr hC).gr hg_224).kpp hk_227
     replace h_65 := ((h_65.gr hC).gr hg_224).kpp hk_227
     replace h_69 := ((h_69.gr hC).gr hg_224).kpp hk_227
     replace h_169 := ((h_169.gr hC).gr hg_224).kpp hk_227
     replace h_73 := ((h_73.gr hC).gr hg_224).kpp hk_227
     replace h0_0 := ((h0_0.gr hC).gr hg_224).kpp hk_227
     replace h0_2 := ((h0_2.gr hC).gr hg_224).kpp hk_227
     replace h0_4 := ((h0_4.gr hC).gr hg_224).kpp hk_227
     replace h0_6 := ((h0_6.gr hC).gr hg_224).kpp hk_227
     replace h_78 := ((h_78.gr hC).gr hg_224).kpp hk_227
     replace h_82 := ((h_82.gr hC).gr hg_224).kpp hk_227
     replace h_87 := ((h_87.gr hC).gr hg_224).kpp hk_227
     replace h_91 := ((h_91.gr hC).gr hg_224).kpp hk_227
     replace h_95 := ((h_95.gr hC).gr hg_224).kpp hk_227
     replace hb_47 := ((hb_47.gr hC).gr hg_224).kpp hk_227
     replace hb_137 := ((hb_137.gr hC).gr hg_224).kpp hk_227
     replace hb_146 := ((hb_146.gr hC).gr hg_224).kpp hk_227
     replace hb3 := ((hb3.gr hC).gr hg_224).kpp hk_227
     replace hb_5 := ((hb_5.gr hC).gr hg_224).kpp hk_227
     replace hb_10 := ((hb_10.gr hC).gr hg_224).kpp hk_227
     replace hst := ((hst.grow hC).grow hg_224).kpp hk_227
     have hC : Grow (clipC w_223 col_226) w_223 (clipC w_223 col_226) w_230 := .of_below hC0.below
     obtain ⟨hk_232, hb_231⟩ := box_float (col := (clipC w_223 col_226)) 22 hZ0 hF_229
     replace hb_231 : Box 40 22 (setC g_228 22 (clipC w_223 col_226)) w_230 g_228 #[(.bool false), (.slice none (([] : List Int).length) 0), (.slice none (([] : List Int).length) 0)] := hb_231
     refine l_bstore (v := (.agg #[(.bool r_215.1.1), (.slice ra_217 r_215.1.2.length rc_218), (.slice ra_220 r_215.2.length rc_221)])) hb_231 Tryz.sizeOf40 rfl rfl (by intro u hu; simp only [Value.cells, List.mem_cons, List.not_mem_nil, or_false] at hu; rcases hu with rfl | rfl | rfl <;> rfl) rfl rfl ?_
     intro w_233 hk_234 hs_235 hb_236
     clear hb_231
     replace hb_236 : Box 40 22 (setC g_228 22 (clipC w_223 col_226)) w_233 g_228 #[(.bool r_215.1.1), (.slice ra_217 r_215.1.2.length rc_218), (.slice ra_220 r_215.2.length rc_221)] := hb_236
     refine lN ⟨fun w' => Grow (clipC w_233 (setC g_228 22 (clipC w_223 col_226))) w_233 (clipC w_233 (setC g_228 22 (clipC w_223 col_226))) w', fun g => (clipC w_233 (setC g_228 22 (clipC w_223 col_226))) g = 497, Grow.refl _ _, good_clip, fun h => absurd h (by decide), ?_⟩
     have hk_237 := KeepP.clip (fun _ => false) (setC g_228 22 (clipC w_223 col_226)) w_233
     refine xnilF ?_
     replace h_161 := (((((h_161.gr hg_224).kpp hk_227).gr hC).kpp hk_232).kp hk_234).kpp hk_237
     replace h_165 := (((((h_165.gr hg_224).kpp hk_227).gr hC).kpp hk_232).kp hk_234).kpp hk_237
     replace h1 := ((((h1.kpp hk_227).gr hC).kpp hk_232).kp hk_234).kpp hk_237
     replace rh_219 := ((((rh_219.kpp hk_227).gr hC).kpp hk_232).kp hk_234).kpp hk_237
     replace rh_222 := ((((rh_222.kpp hk_227).gr hC).kpp hk_232).kp hk_234).kpp hk_237
     replace h_56 := (((h_56.gr hC).kpp hk_232).kp hk_234).kpp hk_237
     replace h_60 := (((h_60.gr hC).kpp hk_232).kp hk_234).kpp hk_237
     replace h_65 := (((h_65.gr hC).kpp hk_232).kp hk_234).kpp hk_237
     replace h_69 := (((h_69.gr hC).kpp hk_232).kp hk_234).kpp hk_237
     replace rh_122 := (((rh_122.gr hC).kpp hk_232).kp hk_234).kpp hk_237
     replace rh_125 := (((rh_125.gr hC).kpp hk_232).kp hk_234).kpp hk_237
     replace h_169 := (((h_169.gr hC).kpp hk_232).kp hk_234).kpp hk_237
     replace h_73 := (((h_73.gr hC).kpp hk_232).kp hk_234).kpp hk_237
     replace h0_0 := (((h0_0.gr hC).kpp hk_232).kp hk_234).kpp hk_237
     replace h0_2 := (((h0_2.gr hC).kpp hk_232).kp hk_234).kpp hk_237
     replace h0_4 := (((h0_4.gr hC).kpp hk_232).kp hk_234).kpp hk_237
     replace h0_6 := (((h0_6.gr hC).kpp hk_232).kp hk_234).kpp hk_237
     replace h_78 := (((h_78.gr hC).kpp hk_232).kp hk_234).kpp hk_237
     replace h_82 := (((h_82.gr hC).kpp hk_232).kp hk_234).kpp hk_237
     replace h_87 := (((h_87.gr hC).kpp hk_232).kp hk_234).kpp hk_237
     replace h_91 := (((h_91.gr hC).kpp hk_232).kp hk_234).kpp hk_237
     replace h_95 := (((h_95.gr hC).kpp hk_232).kp hk_234).kpp hk_237
     replace hb_47 := (((hb_47.gr hC).kpp hk_232).kp hk_234).kpp hk_237
     replace hb_137 := (((hb_137.gr hC).kpp hk_232).kp hk_234).kpp hk_237
     replace hb_146 := (((hb_146.gr hC).kpp hk_232).kp hk_234).kpp hk_237
     replace hb3 := (((hb3.gr hC).kpp hk_232).kp hk_234).kpp hk_237
     replace hb_5 := (((hb_5.gr hC).kpp hk_232).kp hk_234).kpp hk_237
     replace hb_10 := (((hb_10.gr hC).kpp hk_232).kp hk_234).kpp hk_237
     replace hst := (((hst.grow hC).kpp hk_232).kp hk_234 hs_235).kpp hk_237
     intro w_238 hC
     replace hC : Grow (clipC w_233 (setC g_228 22 (clipC w_223 col_226))) w_233 (clipC w_233 (setC g_228 22 (clipC w_223 col_226))) w_238 := .of_below hC.below
     refine wS (wR ?_)
     refine lM (.slice a_167 parts_166.length cap_168) ?_
     replace hb_146 := hb_146.gr hC
     refine lV (.agg #[(.bool at_157), (.slice a_159 at_158.length cap_160), (.slice a_163 at_162.length cap_164)]) (r_ldN Tryz.isAgg40 Tryz.sizeOf40 rfl rfl hb_146.atN) ?_
     replace hb_236 := (hb_236.kpp hk_237).gr hC
     refine lV (.agg #[(.bool r_215.1.1), (.slice ra_217 r_215.1.2.length rc_218), (.slice ra_220 r_215.2.length rc_221)]) (r_ldN Tryz.isAgg40 Tryz.sizeOf40 rfl rfl hb_236.atN) ?_
     refine lV (.agg #[(.bool at_157), (.slice a_159 at_158.length cap_160), (.slice a_163 at_162.length cap_164), (.bool r_215.1.1), (.slice ra_217 r_215.1.2.length rc_218), (.slice ra_220 r_215.2.length rc_221)]) (r_build (l := [_, _]) (qs := [(0, 3), (3, 3)]) Tryz.underlying62 Tryz.zeroValue62 ⟨rfl, Tryz.sizeOf40, rfl, Tryz.sizeOf40, trivial⟩ rfl) ?_
     replace h_56 := h_56.gr hC
     replace h_56 := h_56.froz 21
     replace h_60 := h_60.gr hC
     replace h_60 := h_60.froz 21
     replace h_65 := h_65.gr hC
     replace h_65 := h_65.froz 21
     replace h_69 := h_69.gr hC
     replace h_69 := h_69.froz 21
     replace rh_122 := rh_122.gr hC
     replace rh_122 := rh_122.froz 21 (by decide)
     replace rh_125 := rh_125.gr hC
     replace rh_125 := rh_125.froz 21 (by decide)
     replace h_161 := h_161.gr hC
     replace h_161 := h_161.froz 21
     replace h_165 := h_165.gr hC
     replace h_165 := h_165.froz 21
     replace h_73 := h_73.gr hC
     replace h_73 := h_73.froz 21
     replace h1 := h1.gr hC
     replace h1 := h1.froz 21
     replace h0_0 := h0_0.gr hC
     replace h0_0 := h0_0.froz 21
     replace h0_2 := h0_2.gr hC
     replace h0_2 := h0_2.froz 21
     replace h0_4 := h0_4.gr hC
     replace h0_4 := h0_4.froz 21
     replace h0_6 := h0_6.gr hC
     replace h0_6 := h0_6.froz 21
     replace h_78 := h_78.gr hC
     replace h_78 := h_78.froz 21 (by decide)
     replace h_82 := h_82.gr hC
     replace h_82 := h_82.froz 21 (by decide)
     replace h_87 := h_87.gr hC
     replace h_87 := h_87.froz 21 (by decide)
     replace h_91 := h_91.gr hC
     replace h_91 := h_91.froz 21 (by decide)
     replace h_95 := h_95.gr hC
     replace h_95 := h_95.froz 21 (by decide)
     replace rh_219 := rh_219.gr hC
     replace rh_219 := rh_219.froz 21 (by decide)
     replace rh_222 := rh_222.gr hC
     replace rh_222 := (rh_222).toSlF (Froz.int .u32)
     replace h_169 := h_169.gr hC
     replace h_169 := h_169.froz 21 (by decide)
     replace hb_47 := hb_47.gr hC
     replace hb_47 := hb_47.froz 21 (by decide)
     replace hb_137 := hb_137.gr hC
     replace hb_137 := hb_137.froz 21 (by decide)
     replace hb_146 := hb_146.froz 21 (by decide)
     replace hb3 := hb3.gr hC
     replace hb3 := hb3.froz 21 (by decide)
     replace hb_5 := hb_5.gr hC
     replace hb_5 := hb_5.froz 21 (by decide)
     replace hb_10 := hb_10.gr hC
     replace hb_10 := hb_10.froz 21 (by decide)
     replace hb_236 := hb_236.froz 21 (by decide)
     replace hst := hst.grow hC
     replace hst := hst.froz 21 (by decide) (by decide)
     replace h_56 := h_56.froz 20
     replace h_60 := h_60.froz 20
     replace h_65 := h_65.froz 20
     replace h_69 := h_69.froz 20
     replace rh_122 := rh_122.froz 20 (by decide)
     replace rh_125 := rh_125.froz 20 (by decide)
     replace h_161 := h_161.froz 20
     replace h_165 := h_165.froz 20
     replace h_73 := h_73.froz 20
     replace h1 := h1.froz 20
     replace h0_0 := h0_0.froz 20
     replace h0_2 := h0_2.froz 20
     replace h0_4 := h0_4.froz 20
     replace h0_6 := h0_6.froz 20
     replace h_78 := h_78.froz 20 (by decide)
     replace h_82 := h_82.froz 20 (by decide)
     replace h_87 := h_87.froz 20 (by decide)
     replace h_91 := h_91.froz 20 (by decide)
     replace h_95 := h_95.froz 20 (by decide)
     replace rh_219 := (rh_219).toSlF (Froz.int .u32)
     replace rh_222 := rh_222.froz 20
     replace h_169 := h_169.froz 20 (by decide)
     replace hb_47 := hb_47.froz 20 (by decide)
     replace hb_137 := hb_137.froz 20 (by decide)
     replace hb_146 := hb_146.froz 20 (by decide)
     replace hb3 := hb3.froz 20 (by decide)
     replace hb_5 := hb_5.froz 20 (by decide)
     replace hb_10 := hb_10.froz 20 (by decide)
     replace hb_236 := hb_236.froz 20 (by decide)
     replace hst := hst.froz 20 (by decide) (by decide)
     refine l_lit (col := (frC 20 (frC 21 (clipC w_233 (setC g_228 22 (clipC w_223 col_226)))))) (r := (Rep.pair (Rep.pair (Rep.pair Rep.bool (Rep.slice (Rep.int .u32))) (Rep.slice (Rep.int .u32))) (Rep.pair (Rep.pair Rep.bool (Rep.slice (Rep.int .u32))) (Rep.slice (Rep.int .u32))))) (xs := [(((at_157, at_158), at_162), ((r_215.1.1, r_215.1.2), r_215.2))]) [(.agg #[(.bool at_157), (.slice a_159 at_158.length cap_160), (.slice a_163 at_162.length cap_164), (.bool r_215.1.1), (.slice ra_217 r_215.1.2.length rc_218), (.slice ra_220 r_215.2.length rc_221)])] 23 rfl Tryz.underlying124 el62_71V2C74XS rfl rfl rfl rfl rfl rfl (by intro v hv; simp only [List.mem_cons, List.not_mem_nil, or_false] at hv; subst hv; rfl) (RowsH.ofF (Rows.consF (r := (Rep.pair (Rep.pair (Rep.pair Rep.bool (Rep.slice (Rep.int .u32))) (Rep.slice (Rep.int .u32))) (Rep.pair (Rep.pair Rep.bool (Rep.slice (Rep.int .u32))) (Rep.slice (Rep.int .u32))))) (x := (((at_157, at_158), at_162), ((r_215.1.1, r_215.1.2), r_215.2))) (cs := [(.bool at_157), (.slice a_159 at_158.length cap_160), (.slice a_163 at_162.length cap_164), (.bool r_215.1.1), (.slice ra_217 r_215.1.2.length rc_218), (.slice ra_220 r_215.2.length rc_221)]) (rd_pairI (rd_pairI (rd_pairI (rd_bool at_157) (rd_slI h_161)) (rd_slI h_165)) (rd_pairI (rd_pairI (rd_bool r_215.1.1) (rd_slI rh_219)) (rd_slI rh_222))) Rows.nil0)) ?_
     intro a_239 w_240 col_241 hg_242 h_243
     obtain ⟨hb_244, hm⟩ := cS hm
     replace h_169 := h_169.gr hg_242
     refine l_appendM (col := col_241) (w := w_240) (r := (Rep.pair (Rep.pair (Rep.pair Rep.bool (Rep.slice (Rep.int .u32))) (Rep.slice (Rep.int .u32))) (Rep.pair (Rep.pair Rep.bool (Rep.slice (Rep.int .u32))) (Rep.slice (Rep.int .u32))))) (c := 17) (c2 := 17) (xs := parts_166) (ys := [(((at_157, at_158), at_162), ((r_215.1.1, r_215.1.2), r_215.2))]) h_169 (h_243.srcN (NB.pair (NB.pair (NB.pair NB.bool NB.slice) NB.slice) (NB.pair (NB.pair NB.bool NB.slice) NB.slice))) rfl Tryz.underlying124 el62_71V2C74XS rfl rfl rfl hb_244.1 hb_244.2 (by decide) ?_
     intro a_245 cap_246 w_247 col_248 hk_249 h_250
     clear h_169
     refine lA (.slice a_245 ((parts_166 ++ [(((at_157, at_158), at_162), ((r_215.1.1, r_215.1.2), r_215.2))]).length) cap_246) ?_
     refine lN (wR ?_)
     replace hb_236 := (hb_236.gr hg_242).kpp hk_249
     refine lV (.agg #[(.bool r_215.1.1), (.slice ra_217 r_215.1.2.length rc_218), (.slice ra_220 r_215.2.length rc_221)]) (r_ldN Tryz.isAgg40 Tryz.sizeOf40 rfl rfl hb_236.atN) ?_
     replace hb_146 := (hb_146.gr hg_242).kpp hk_249
     refine l_bstore (v := (.agg #[(.bool r_215.1.1), (.slice ra_217 r_215.1.2.length rc_218), (.slice ra_220 r_215.2.length rc_221)])) hb_146 Tryz.sizeOf40 rfl rfl (by intro u hu; simp only [Value.cells, List.mem_cons, List.not_mem_nil, or_false] at hu; rcases hu with rfl | rfl | rfl <;> rfl) rfl rfl ?_
     intro w_251 hk_252 hs_253 hb_254
     clear hb_146
     replace hb_254 : Box 40 16 col_248 w_251 g_138 #[(.bool r_215.1.1), (.slice ra_217 r_215.1.2.length rc_218), (.slice ra_220 r_215.2.length rc_221)] := hb_254
     refine lN (wR ?_)
     refine lV (.int .i64 (IntKind.i64.wrap (v_170 + 1))) (r_add v_170 1 rfl rfl) ?_
     refine lM (.int .i64 (IntKind.i64.wrap (v_170 + 1))) ?_
     refine lN ?_
     replace h_56 := ((h_56.gr hg_242).kpp hk_249).kp hk_252
     replace h_60 := ((h_60.gr hg_242).kpp hk_249).kp hk_252
     replace h_65 := ((h_65.gr hg_242).kpp hk_249).kp hk_252
     replace h_69 := ((h_69.gr hg_242).kpp hk_249).kp hk_252
     replace rh_122 := ((rh_122.gr hg_242).kpp hk_249).kp hk_252
     replace rh_125 := ((rh_125.gr hg_242).kpp hk_249).kp hk_252
     replace h_73 := ((h_73.gr hg_242).kpp hk_249).kp hk_252
     replace h1 := ((h1.gr hg_242).kpp hk_249).kp hk_252
     replace h0_0 := ((h0_0.gr hg_242).kpp hk_249).kp hk_252
     replace h0_2 := ((h0_2.gr hg_242).kpp hk_249).kp hk_252
     replace h0_4 := ((h0_4.gr hg_242).kpp hk_249).kp hk_252
     replace h0_6 := ((h0_6.gr hg_242).kpp hk_249).kp hk_252
     replace h_78 := ((h_78.gr hg_242).kpp hk_249).kp hk_252
     replace h_82 := ((h_82.gr hg_242).kpp hk_249).kp hk_252
     replace h_87 := ((h_87.gr hg_242).kpp hk_249).kp hk_252
     replace h_91 := ((h_91.gr hg_242).kpp hk_249).kp hk_252
     replace h_95 := ((h_95.gr hg_242).kpp hk_249).kp hk_252
     replace rh_219 := ((rh_219.gr hg_242).kpp hk_249).kp hk_252
     replace rh_222 := ((rh_222.gr hg_242).kpp hk_249).kp hk_252
     replace hb_47 := ((hb_47.gr hg_242).kpp hk_249).kp hk_252
     replace hb_137 := ((hb_137.gr hg_242).kpp hk_249).kp hk_252
     replace hb3 := ((hb3.gr hg_242).kpp hk_249).kp hk_252
     replace hb_5 := ((hb_5.gr hg_242).kpp hk_249).kp hk_252
     replace hb_10 := ((hb_10.gr hg_242).kpp hk_249).kp hk_252
     replace hst := ((hst.grow hg_242).kpp hk_249).kp hk_252 hs_253
     replace h_250 := h_250.kp hk_252
     exact ⟨n_154, by omega, ⟨col_248, r_215.1.1, ra_217, rc_218, r_215.1.2, ra_220, rc_221, r_215.2, a_245, cap_246, (parts_166 ++ [(((at_157, at_158), at_162), ((r_215.1.1, r_215.1.2), r_215.2))]), (IntKind.i64.wrap (v_170 + 1)), n_154, rfl, hm, hst, h_56, h_60, h_65, h_69, hb_47, rh_122, rh_125, hb_137, rh_219, rh_222, hb_254, h_250, h_73, hb3, h1, h0_0, h0_2, h0_4, h0_6, hb_5, h_78, h_82, h_87, h_91, hb_10, h_95, rfl, rfl, rfl, rfl, rfl, rfl, rfl, rfl, rfl, rfl, rfl, rfl, rfl, rfl, rfl, rfl⟩⟩
    rw [if_neg (by rw [hb]; decide)] at hm
    clear hb
    refine wexit (inB_hit ?_)
    refine wS (wR ?_)
    refine lM (.func (.func 74) #[] #[(.pointer (some ⟨g3, 0, none⟩))]) ?_
    refine lM (.int .i64 x_96) ?_
    refine lM (.slice a_167 parts_166.length cap_168) ?_
    obtain ⟨r_255, hr_256, hm⟩ := bS hm
    refine lc rfl rfl (r_callv2 Tryz.call74 rfl rfl rfl) (c_code_Span_1_v2ss (frC 17 col_156) _ 999 (by decide) x_96 a_167 cap_168 parts_166 g3 n_70 a_71 cap_72 (h_169.toSlF (Froz.pair (Froz.pair (Froz.pair Froz.bool Froz.slice) Froz.slice) (Froz.pair (Froz.pair Froz.bool Froz.slice) Froz.slice))) (h_73.froz 17) (hb3.froz 17 (by decide)) r_255 hr_256) ?_
    rintro _ w_257 ⟨rfl, hg_258⟩
    refine ⟨_, rfl, ?_⟩
    replace hg_258 : Grow col_156 w_155 col_156 w_257 := .of_below hg_258
    refine lA (.int .i64 r_255) ?_
    refine lN (wS (wS (wR ?_)))
    refine lM (.int .i64 r_255) ?_
    refine lV (.bool (decide (r_255 < 0))) (r_lss r_255 0 rfl rfl) ?_
    refine lN ?_
    replace h_169 := h_169.gr hg_258
    replace h_73 := h_73.gr hg_258
    replace h1 := h1.gr hg_258
    replace h0_0 := h0_0.gr hg_258
    replace h0_2 := h0_2.gr hg_258
    replace h0_4 := h0_4.gr hg_258
    replace h0_6 := h0_6.gr hg_258
    replace h_78 := h_78.gr hg_258
    replace h_82 := h_82.gr hg_258
    replace h_87 := h_87.gr hg_258
    replace h_91 := h_91.gr hg_258
    replace h_95 := h_95.gr hg_258
    replace hb_47 := hb_47.gr hg_258
    replace hb3 := hb3.gr hg_258
    replace hb_5 := hb_5.gr hg_258
    replace hb_10 := hb_10.gr hg_258
    replace hst := hst.grow hg_258
    refine wcond (decide (r_255 < 0)) rfl (fun hb => ?_) (fun hb => ?_)
    ·rw [if_pos hb] at hm
     clear hb
     cases hm
    rw [if_neg (by rw [hb]; decide)] at hm
    clear hb
    refine wK (wR ?_)
    refine lM (.slice a_93 values_92.length cap_94) ?_
    refine lM (.int .i64 x_96) ?_
    refine lM (.int .i64 r_255) ?_
    refine lM (.slice a_167 parts_166.length cap_168) ?_
    refine lM (.int .i64 r_255) ?_
    obtain ⟨e_259, hj_260, hm⟩ := bS hm
    refine lV (sptr a_167 (Int.toNat r_255 * 6)) (r_idx Tryz.underlying124 Tryz.sizeOf62 rfl rfl (at?_some hj_260).1 (at?_some hj_260).2.1 (h_169.addr hj_260)) ?_
    obtain ⟨_, hr_261, hA_262⟩ := h_169.atN hj_260
    obtain ⟨_, _, rfl, hp_263, hp_264⟩ := hr_261.parts
    obtain ⟨_, _, rfl, hp_265, hp_266⟩ := hp_263.parts
    obtain ⟨_, _, rfl, hp_267, hp_268⟩ := hp_265.parts
    obtain rfl := hp_267.bool
    obtain ⟨a_269, cap_270, rfl, h_271⟩ := hp_268.slice
    obtain ⟨a_272, cap_273, rfl, h_274⟩ := hp_266.slice
    obtain ⟨_, _, rfl, hp_275, hp_276⟩ := hp_264.parts
    obtain ⟨_, _, rfl, hp_277, hp_278⟩ := hp_275.parts
    obtain rfl := hp_277.bool
    obtain ⟨a_279, cap_280, rfl, h_281⟩ := hp_278.slice
    obtain ⟨a_282, cap_283, rfl, h_284⟩ := hp_276.slice
    refine lV (.agg #[(.bool e_259.1.1.1), (.slice a_269 e_259.1.1.2.length cap_270), (.slice a_272 e_259.1.2.length cap_273), (.bool e_259.2.1.1), (.slice a_279 e_259.2.1.2.length cap_280), (.slice a_282 e_259.2.2.length cap_283)]) (r_ldN Tryz.isAgg62 Tryz.sizeOf62 rfl rfl hA_262) ?_
    obtain ⟨e_285, hj_286, hm⟩ := bS hm
    refine lV (sptr a_93 (Int.toNat x_96 * 1)) (r_idx Tryz.underlying33 Tryz.sizeOf3 rfl rfl (at?_some hj_286).1 (at?_some hj_286).2.1 (h_95.addr hj_286)) ?_
    obtain ⟨xs_292, hz_291, hm⟩ := bS hm
    have hz_291 : xs_292 = values_92.set (Int.toNat x_96) r_255 := (Option.some.inj hz_291).symm
    refine l_store (x1 := r_255) (v := (.int .i64 r_255)) h_95 hj_286 rfl Tryz.sizeOf3 (rd_int .i64 r_255) rfl rfl (by decide) ?_
    intro w_287 hk_288 hs_289 h_290
    rw [← hz_291] at h_290
    refine .ld (d := 9) (v := (.slice a_93 xs_292.length cap_94)) (congrArg (fun n => Value.slice a_93 n cap_94) (show values_92.length = xs_292.length by rw [hz_291, List.length_set])) ?_
    clear h_95
    replace hb_47 := hb_47.kp hk_288
    refine l_bstore (v := (.agg #[(.bool e_259.1.1.1), (.slice a_269 e_259.1.1.2.length cap_270), (.slice a_272 e_259.1.2.length cap_273), (.bool e_259.2.1.1), (.slice a_279 e_259.2.1.2.length cap_280), (.slice a_282 e_259.2.2.length cap_283)])) hb_47 Tryz.sizeOf62 rfl rfl (by intro u hu; simp only [Value.cells, List.mem_cons, List.not_mem_nil, or_false] at hu; rcases hu with rfl | rfl | rfl | rfl | rfl | rfl <;> rfl) rfl rfl ?_
    intro w_293 hk_294 hs_295 hb_296
    clear hb_47
    replace hb_296 : Box 62 8 col_156 w_293 g_39 #[(.bool e_259.1.1.1), (.slice a_269 e_259.1.1.2.length cap_270), (.slice a_272 e_259.1.2.length cap_273), (.bool e_259.2.1.1), (.slice a_279 e_259.2.1.2.length cap_280), (.slice a_282 e_259.2.2.length cap_283)] := hb_296
    refine lN (wR ?_)
    refine lV (.int .i64 (IntKind.i64.wrap ((k_48 : Int) + 1))) (r_add (k_48 : Int) 1 rfl rfl) ?_
    refine lM (.int .i64 (IntKind.i64.wrap ((k_48 : Int) + 1))) ?_
    refine lN ?_
    replace h_73 := (h_73.kp hk_288).kp hk_294
    replace h1 := (h1.kp hk_288).kp hk_294
    replace h0_0 := (h0_0.kp hk_288).kp hk_294
    replace h0_2 := (h0_2.kp hk_288).kp hk_294
    replace h0_4 := (h0_4.kp hk_288).kp hk_294
    replace h0_6 := (h0_6.kp hk_288).kp hk_294
    replace h_78 := (h_78.kp hk_288).kp hk_294
    replace h_82 := (h_82.kp hk_288).kp hk_294
    replace h_87 := (h_87.kp hk_288).kp hk_294
    replace h_91 := (h_91.kp hk_288).kp hk_294
    replace h_271 := (h_271.kp hk_288).kp hk_294
    replace h_274 := (h_274.kp hk_288).kp hk_294
    replace h_281 := (h_281.kp hk_288).kp hk_294
    replace h_284 := (h_284.kp hk_288).kp hk_294
    replace hb3 := (hb3.kp hk_288).kp hk_294
    replace hb_5 := (hb_5.kp hk_288).kp hk_294
    replace hb_10 := (hb_10.kp hk_288).kp hk_294
    replace hst := (hst.kp hk_288 hs_289).kp hk_294 hs_295
    replace h_290 := h_290.kp hk_294
    exact ⟨l_97.length, by simp, ⟨col_156, e_259.1.1.1, a_269, cap_270, e_259.1.1.2, a_272, cap_273, e_259.1.2, e_259.2.1.1, a_279, cap_280, e_259.2.1.2, a_282, cap_283, e_259.2.2, a_71, cap_72, n_70, (k_48 + 1), v_74, a_76, cap_77, v_75, a_80, cap_81, v_79, v_83, a_85, cap_86, v_84, a_89, cap_90, v_88, a_93, cap_94, xs_292, l_97, rfl, hl2_L1, hm, hst, h_271, h_274, h_281, h_284, hb_296, h_73, hb3, h1, h0_0, h0_2, h0_4, h0_6, hb_5, h_78, h_82, h_87, h_91, hb_10, h_290, (congrArg (Value.int .i64) (wrap_succ (Nat.lt_of_lt_of_le hlt_L1 h1.1.1))), rfl, rfl, rfl, rfl, rfl, rfl, rfl, rfl⟩⟩
  | cons x_116 l_117 =>
   obtain ⟨hat, hl2_L2, hlt_L2⟩ := drop_get hl
   have hk : (k_111 : Int) < (e_104.length : Int) := by omega
   have hkb := decide_eq_true hk
   rw [m_code_cut_v2c74xs_L2.eq_2] at hm
   refine wS (wR ?_)
   refine lV (.bool (decide ((k_111 : Int) < (e_104.length : Int)))) (r_lss (k_111 : Int) (e_104.length : Int) rfl rfl) ?_
   refine lN (wS ?_)
   refine wcondT (congrArg Value.bool hkb) ?_
   refine wK (wS (wB (wS (wR ?_))))
   refine lV (sptr a_108 (Int.toNat (k_111 : Int) * 1)) (r_idx Tryz.underlying33 Tryz.sizeOf3 rfl rfl (at?_some hat).1 (at?_some hat).2.1 (h_110.addr hat)) ?_
   refine lV (.int .i64 x_116) (r_ld Tryz.isAgg3 rfl (h_110.atInt hat)) ?_
   refine lA (.int .i64 x_116) ?_
   refine lN ?_
   refine wquiet (col := col_114) (by kernel_rfl) (by kernel_rfl) ?_
   refine qv (v := (.int .i64 row_115)) rfl (fun _ hC => r_move rfl) ?_
   refine qv (v := (.pointer ((some (⟨g_1, 0, none⟩ : Addr)).map (·.add 2)))) rfl (fun _ hC => rF (sz := 1) (off := 2) Tryz.underlying28 rfl Tryz.sizeOf24 (by decide) rfl rfl ⟨_, _, rfl⟩) ?_
   refine qv (v := (.slice a0_2 p0_n.2.2.1.length cap0_2)) rfl (fun _ hC => r_ld Tryz.isAgg24 rfl (((hb_5.atN).nth (q := 2) (v := (.slice a0_2 p0_n.2.2.1.length cap0_2)) rfl).gr (Grow.of_below (col := col_114) hC.below))) ?_
   refine qv (v := (.int .i64 x_116)) rfl (fun _ hC => r_move rfl) ?_
   obtain ⟨e_297, hj_298, hm⟩ := bS hm
   refine qv (v := (sptr a0_2 (Int.toNat x_116 * 1))) rfl (fun _ hC => r_idx Tryz.underlying24 Tryz.sizeOf23 rfl rfl (at?_some hj_298).1 (at?_some hj_298).2.1 (h0_2.addr hj_298)) ?_
   obtain ⟨_, hr_299, hA_300⟩ := h0_2.atN hj_298
   obtain ⟨⟨a_301, cap_302, rfl, h_303⟩, _⟩ := hr_299
   refine qv (v := (.slice a_301 e_297.length cap_302)) rfl (fun _ hC => r_ld Tryz.isAgg23 rfl (hA_300.one.gr (Grow.of_below (col := col_114) hC.below))) ?_
   refine qv (v := (.int .i64 (e_297.length : Int))) rfl (fun _ hC => r_len Tryz.underlying23 rfl) ?_
   refine qv (v := (.int .i64 (IntKind.i64.wrap (row_115 * (e_297.length : Int))))) rfl (fun _ hC => r_mul row_115 (e_297.length : Int) rfl rfl) ?_
   refine qv (v := (.slice a_93 values_92.length cap_94)) rfl (fun _ hC => r_move rfl) ?_
   refine qv (v := (.int .i64 x_116)) rfl (fun _ hC => r_move rfl) ?_
   obtain ⟨e_304, hj_305, hm⟩ := bS hm
   refine qv (v := (sptr a_93 (Int.toNat x_116 * 1))) rfl (fun _ hC => r_idx Tryz.underlying33 Tryz.sizeOf3 rfl rfl (at?_some hj_305).1 (at?_some hj_305).2.1 (h_95.addr hj_305)) ?_
   refine qv (v := (.int .i64 e_304)) rfl (fun _ hC => r_ld Tryz.isAgg3 rfl ((h_95.gr (Grow.of_below (col := col_114) hC.below)).atInt hj_305)) ?_
   refine qv (v := (.int .i64 (IntKind.i64.wrap ((IntKind.i64.wrap (row_115 * (e_297.length : Int))) + e_304)))) rfl (fun _ hC => r_add (IntKind.i64.wrap (row_115 * (e_297.length : Int))) e_304 rfl rfl) ?_
   refine qv (v := (.int .i64 (IntKind.i64.wrap ((IntKind.i64.wrap (row_115 * (e_297.length : Int))) + e_304)))) rfl (fun _ hC => r_assign rfl) ?_
   refine qnil ?_
   intro w_306 hC
   replace hC : Grow col_114 w_113 col_114 w_306 := .of_below hC.below
   refine wR ?_
   refine lV (.int .i64 (IntKind.i64.wrap ((k_111 : Int) + 1))) (r_add (k_111 : Int) 1 rfl rfl) ?_
   refine lM (.int .i64 (IntKind.i64.wrap ((k_111 : Int) + 1))) ?_
   refine lN ?_
   replace h_56 := h_56.gr hC
   replace h_60 := h_60.gr hC
   replace h_65 := h_65.gr hC
   replace h_69 := h_69.gr hC
   replace h_73 := h_73.gr hC
   replace h1 := h1.gr hC
   replace h0_0 := h0_0.gr hC
   replace h0_2 := h0_2.gr hC
   replace h0_4 := h0_4.gr hC
   replace h0_6 := h0_6.gr hC
   replace h_110 := h_110.gr hC
   replace h_78 := h_78.gr hC
   replace h_82 := h_82.gr hC
   replace h_87 := h_87.gr hC
   replace h_91 := h_91.gr hC
   replace h_95 := h_95.gr hC
   replace hb_47 := hb_47.gr hC
   replace hb3 := hb3.gr hC
   replace hb_5 := hb_5.gr hC
   replace hb_10 := hb_10.gr hC
   replace hst := hst.grow hC
   exact ⟨l_117.length, by simp, ⟨col_114, (IntKind.i64.wrap ((IntKind.i64.wrap (row_115 * (e_297.length : Int))) + e_304)), (k_111 + 1), l_117, rfl, hl2_L2, hm, hst, h_56, h_60, h_65, h_69, hb_47, h_73, hb3, h1, h0_0, h0_2, h0_4, h0_6, hb_5, h_110, h_78, h_82, h_87, h_91, hb_10, h_95, (congrArg (Value.int .i64) (wrap_succ (Nat.lt_of_lt_of_le hlt_L2 h_110.1.1))), rfl, rfl, rfl, rfl, rfl, rfl, rfl, rfl, rfl, rfl, rfl, rfl, rfl⟩⟩
def m_code_fresh (N : Nat) (p0_a : ((Bool × (List Int)) × (List Int))) : Option ((Bool × (List Int)) × (List Int)) :=
  (m_frac_Add N ((p0_a.1.1, p0_a.1.2), p0_a.2) ((false, ([] : List Int)), ([] : List Int))).bind fun r_11 => some ((r_11.1.1, r_11.1.2), r_11.2)
theorem c_code_fresh (N : Nat) (c1 : Nat) (c2 : Nat) (col : Col) (w0 : World) (a0_0 : Option Addr) (cap0_0 : Nat) (a0_2 : Option Addr) (cap0_2 : Nat) (p0_a : ((Bool × (List Int)) × (List Int))) (h0_0 : Sl (Rep.int .u32) col w0 a0_0 cap0_0 p0_a.1.2) (h0_2 : Sl (Rep.int .u32) col w0 a0_2 cap0_2 p0_a.2) (r : ((Bool × (List Int)) × (List Int))) (hm : m_code_fresh N p0_a = some r) :
    Calls Tryz.prog 75 #[(.agg #[(.bool p0_a.1.1), (.slice a0_0 p0_a.1.2.length cap0_0), (.slice a0_2 p0_a.2.length cap0_2)])] w0 (fun e w' => ∃ (col' : Col) (ra1 : Option Addr) (rc2 : Nat) (ra4 : Option Addr) (rc5 : Nat), e = .returned ((.agg #[(.bool r.1.1), (.slice ra1 r.1.2.length rc2), (.slice ra4 r.2.length rc5)])) ∧ Grow col w0 col' w' ∧ Own (Rep.int .u32) 114 c1 col' w' ra1 rc2 r.1.2 ∧ Own (Rep.int .u32) 114 c2 col' w' ra4 rc5 r.2) := by
 refine calls_ofR (m := 6) (args := [(.agg #[(.bool p0_a.1.1), (.slice a0_0 p0_a.1.2.length cap0_0), (.slice a0_2 p0_a.2.length cap0_2)])]) Tryz.func75 rfl rfl rfl ?_
 rw [m_code_fresh.eq_1] at hm
 have hst := St.start col w0
 refine wS (wR ?_)
 refine l_box (col := (col0 col)) (v := (.agg #[(.bool p0_a.1.1), (.slice a0_0 p0_a.1.2.length cap0_0), (.slice a0_2 p0_a.2.length cap0_2)])) 1 rfl rfl ?_
 intro g_1 w_2 col_3 hg_4 hb_5
 replace hb_5 : Box 40 1 col_3 w_2 g_1 #[(.bool p0_a.1.1), (.slice a0_0 p0_a.1.2.length cap0_0), (.slice a0_2 p0_a.2.length cap0_2)] := hb_5
 refine l_alloc (col := col_3) (v := (.agg #[(.bool false), (.slice none (([] : List Int).length) 0), (.slice none (([] : List Int).length) 0)])) 2 rfl Tryz.zeroValue40 ?_
 intro g_6 w_7 col_8 hg_9 hb_10
 replace hb_10 : Box 40 2 col_8 w_7 g_6 #[(.bool false), (.slice none (([] : List Int).length) 0), (.slice none (([] : List Int).length) 0)] := hb_10
 refine lN (wS (wR ?_))
 replace hb_5 := hb_5.gr hg_9
 refine lV (.agg #[(.bool p0_a.1.1), (.slice a0_0 p0_a.1.2.length cap0_0), (.slice a0_2 p0_a.2.length cap0_2)]) (r_ldN Tryz.isAgg40 Tryz.sizeOf40 rfl rfl hb_5.atN) ?_
 refine lV (.agg #[(.bool false), (.slice none (([] : List Int).length) 0), (.slice none (([] : List Int).length) 0)]) (r_build (l := [_, _]) (qs := [(0, 2), (2, 1)]) Tryz.underlying40 Tryz.zeroValue40 ⟨rfl, Tryz.sizeOf38, rfl, Tryz.sizeOf36, trivial⟩ rfl) ?_
 obtain ⟨r_11, hr_12, hm⟩ := bS hm
 replace h0_0 := ((h0_0.keep (Stay.start col w0)).gr hg_4).gr hg_9
 replace h0_2 := ((h0_2.keep (Stay.start col w0)).gr hg_4).gr hg_9
 refine lc rfl rfl (r_call2 Tryz.call27 rfl rfl) (c_frac_Add N 3 4 col_8 _ a0_0 cap0_0 a0_2 cap0_2 ((p0_a.1.1, p0_a.1.2), p0_a.2) none 0 none 0 ((false, ([] : List Int)), ([] : List Int)) h0_0 h0_2 Sl.nil Sl.nil r_11 hr_12) ?_
 rintro _ w_19 ⟨col_21, ra_13, rc_14, ra_16, rc_17, rfl, hg_20, rh_15, rh_18⟩
 refine ⟨_, rfl, ?_⟩
 replace hb_10 := hb_10.gr hg_20
 refine l_bstore (v := (.agg #[(.bool r_11.1.1), (.slice ra_13 r_11.1.2.length rc_14), (.slice ra_16 r_11.2.length rc_17)])) hb_10 Tryz.sizeOf40 rfl rfl (by intro u hu; simp only [Value.cells, List.mem_cons, List.not_mem_nil, or_false] at hu; rcases hu with rfl | rfl | rfl <;> rfl) rfl rfl ?_
 intro w_22 hk_23 hs_24 hb_25
 clear hb_10
 replace hb_25 : Box 40 2 col_21 w_22 g_6 #[(.bool r_11.1.1), (.slice ra_13 r_11.1.2.length rc_14), (.slice ra_16 r_11.2.length rc_17)] := hb_25
 refine lN ?_
 refine wret ?_
 cases hm
 replace hst := (((hst.grow hg_4).grow hg_9).grow hg_20).kp hk_23 hs_24
 replace rh_15 := rh_15.kp hk_23
 replace rh_18 := rh_18.kp hk_23
 exact ⟨rfl, _, res_a rfl rfl Tryz.isAgg40 Tryz.sizeOf40 rfl rfl hb_25.atN, colF w0.heap.size col col_21 (fun n => bif Nat.beq n 3 then c1 else bif Nat.beq n 4 then c2 else 0), ra_13, rc_14, ra_16, rc_17, rfl, hst.fin (fun n => bif Nat.beq n 3 then c1 else bif Nat.beq n 4 then c2 else 0), hst.finOwn (g := (fun n => bif Nat.beq n 3 then c1 else bif Nat.beq n 4 then c2 else 0)) rfl rh_15 (by decide) (by decide) rfl, hst.finOwn (g := (fun n => bif Nat.beq n 3 then c1 else bif Nat.beq n 4 then c2 else 0)) rfl rh_18 (by decide) (by decide) rfl⟩
def m_code_Span_J1 (k_20 : Nat) (v_24 : Bool) (v_25 : List Int) (v_29 : List Int) (v_33 : Bool) (v_34 : List Int) (v_38 : List Int) (kk_L1 : (Nat → Bool → (List Int) → (List Int) → Bool → (List Int) → (List Int) → Option ((((Bool × (List Int)) × (List Int)) × ((Bool × (List Int)) × (List Int))) × Int))) (v_129 : Bool) : Option ((((Bool × (List Int)) × (List Int)) × ((Bool × (List Int)) × (List Int))) × Int) :=
  if v_129 = true then none else (kk_L1 (k_20 + 1) v_24 v_25 v_29 v_33 v_34 v_38)
def m_code_Span_L1 (N : Nat) (p0_n : (ByteArray × (List ByteArray) × (List (List ByteArray)) × (List (List Int)) × (List (List ((Bool × (List Int)) × (List Int)))))) (p1_values : (List Int)) : List Int → Nat → Bool → (List Int) → (List Int) → Bool → (List Int) → (List Int) → Option ((((Bool × (List Int)) × (List Int)) × ((Bool × (List Int)) × (List Int))) × Int)
  | [], k_20, v_24, v_25, v_29, v_33, v_34, v_38 => (m_dag_Order N p0_n.2.2.2.1).bind fun r_44 => (m_code_cut_v2c74xs N (p0_n.1, p0_n.2.1, p0_n.2.2.1, p0_n.2.2.2.1, p0_n.2.2.2.2) r_44.1 p1_values).bind fun r_52 => (m_code_fresh N ((r_52.2.1.1.1.1, r_52.2.1.1.1.2), r_52.2.1.1.2)).bind fun r_82 => (m_code_fresh N ((r_52.2.1.2.1.1, r_52.2.1.2.1.2), r_52.2.1.2.2)).bind fun r_94 => some ((((r_82.1.1, r_82.1.2), r_82.2), ((r_94.1.1, r_94.1.2), r_94.2)), 0)
  | x_42 :: l_43, k_20, v_24, v_25, v_29, v_33, v_34, v_38 => if (decide (x_42 < 0)) = true then (m_code_Span_J1 k_20 v_24 v_25 v_29 v_33 v_34 v_38 (m_code_Span_L1 N p0_n p1_values l_43) true) else ((at? p0_n.2.2.1 (k_20 : Int)).bind fun e_131 => m_code_Span_J1 k_20 v_24 v_25 v_29 v_33 v_34 v_38 (m_code_Span_L1 N p0_n p1_values l_43) (decide ((e_131.length : Int) ≤ x_42)))
termination_by structural x => x
def m_code_Span (N : Nat) (p0_n : (ByteArray × (List ByteArray) × (List (List ByteArray)) × (List (List Int)) × (List (List ((Bool × (List Int)) × (List Int)))))) (p1_values : (List Int)) : Option ((((Bool × (List Int)) × (List Int)) × ((Bool × (List Int)) × (List Int))) × Int) :=
  (m_model_Check N (p0_n.1, p0_n.2.1, p0_n.2.2.1, p0_n.2.2.2.1, p0_n.2.2.2.2)).bind fun r_16 => if (!decide (r_16 = 0)) = true then none else (if (!decide ((p1_values.length : Int) = (p0_n.2.1.length : Int))) = true then none else (m_code_Span_L1 N p0_n p1_values p1_values 0 false ([] : List Int) ([] : List Int) false ([] : List Int) ([] : List Int)))
theorem c_code_Span (N : Nat) (c1 : Nat) (c2 : Nat) (c3 : Nat) (c4 : Nat) (col : Col) (w0 : World) (a0_0 : Option Addr) (cap0_0 : Nat) (a0_2 : Option Addr) (cap0_2 : Nat) (a0_4 : Option Addr) (cap0_4 : Nat) (a0_6 : Option Addr) (cap0_6 : Nat) (p0_n : (ByteArray × (List ByteArray) × (List (List ByteArray)) × (List (List Int)) × (List (List ((Bool × (List Int)) × (List Int)))))) (a1 : Option Addr) (cap1 : Nat) (p1_values : (List Int)) (h0_0 : Sl Rep.str col w0 a0_0 cap0_0 p0_n.2.1) (h0_2 : Sl (Rep.slice Rep.str) col w0 a0_2 cap0_2 p0_n.2.2.1) (h0_4 : Sl (Rep.slice (Rep.int .i64)) col w0 a0_4 cap0_4 p0_n.2.2.2.1) (h0_6 : Sl (Rep.slice (Rep.pair (Rep.pair Rep.bool (Rep.slice (Rep.int .u32))) (Rep.slice (Rep.int .u32)))) col w0 a0_6 cap0_6 p0_n.2.2.2.2) (h1 : Sl (Rep.int .i64) col w0 a1 cap1 p1_values) (r : ((((Bool × (List Int)) × (List Int)) × ((Bool × (List Int)) × (List Int))) × Int)) (hm : m_code_Span N p0_n p1_values = some r) :
    Calls Tryz.prog 21 #[(.agg #[(.string p0_n.1), (.slice a0_0 p0_n.2.1.length cap0_0), (.slice a0_2 p0_n.2.2.1.length cap0_2), (.slice a0_4 p0_n.2.2.2.1.length cap0_4), (.slice a0_6 p0_n.2.2.2.2.length cap0_6)]), (.slice a1 p1_values.length cap1)] w0 (fun e w' => ∃ (col' : Col) (ra1 : Option Addr) (rc2 : Nat) (ra4 : Option Addr) (rc5 : Nat) (ra7 : Option Addr) (rc8 : Nat) (ra10 : Option Addr) (rc11 : Nat), e = .returned (.tuple #[(.agg #[(.bool r.1.1.1.1), (.slice ra1 r.1.1.1.2.length rc2), (.slice ra4 r.1.1.2.length rc5), (.bool r.1.2.1.1), (.slice ra7 r.1.2.1.2.length rc8), (.slice ra10 r.1.2.2.length rc11)]), (.int .i64 r.2)]) ∧ Grow col w0 col' w' ∧ Own (Rep.int .u32) 114 c1 col' w' ra1 rc2 r.1.1.1.2 ∧ Own (Rep.int .u32) 114 c2 col' w' ra4 rc5 r.1.1.2 ∧ Own (Rep.int .u32) 114 c3 col' w' ra7 rc8 r.1.2.1.2 ∧ Own (Rep.int .u32) 114 c4 col' w' ra10 rc11 r.1.2.2) := by
 refine calls_ofR (m := 69) (args := [(.agg #[(.string p0_n.1), (.slice a0_0 p0_n.2.1.length cap0_0), (.slice a0_2 p0_n.2.2.1.length cap0_2), (.slice a0_4 p0_n.2.2.2.1.length cap0_4), (.slice a0_6 p0_n.2.2.2.2.length cap0_6)]), (.slice a1 p1_values.length cap1)]) Tryz.func21 rfl rfl rfl ?_
 rw [m_code_Span.eq_1] at hm
 have hst := St.start col w0
 refine wS (wR ?_)
 refine l_box (col := (col0 col)) (v := (.agg #[(.string p0_n.1), (.slice a0_0 p0_n.2.1.length cap0_0), (.slice a0_2 p0_n.2.2.1.length cap0_2), (.slice a0_4 p0_n.2.2.2.1.length cap0_4), (.slice a0_6 p0_n.2.2.2.2.length cap0_6)])) 1 rfl rfl ?_
 intro g_1 w_2 col_3 hg_4 hb_5
 replace hb_5 : Box 28 1 col_3 w_2 g_1 #[(.string p0_n.1), (.slice a0_0 p0_n.2.1.length cap0_0), (.slice a0_2 p0_n.2.2.1.length cap0_2), (.slice a0_4 p0_n.2.2.2.1.length cap0_4), (.slice a0_6 p0_n.2.2.2.2.length cap0_6)] := hb_5
 refine l_box (col := col_3) (v := (.slice a1 p1_values.length cap1)) 2 rfl rfl ?_
 intro g_6 w_7 col_8 hg_9 hb_10
 replace hb_10 : Box 33 2 col_8 w_7 g_6 #[(.slice a1 p1_values.length cap1)] := hb_10
 refine l_alloc (col := col_8) (v := (.agg #[(.bool false), (.slice none (([] : List Int).length) 0), (.slice none (([] : List Int).length) 0), (.bool false), (.slice none (([] : List Int).length) 0), (.slice none (([] : List Int).length) 0)])) 3 rfl Tryz.zeroValue62 ?_
 intro g_11 w_12 col_13 hg_14 hb_15
 replace hb_15 : Box 62 3 col_13 w_12 g_11 #[(.bool false), (.slice none (([] : List Int).length) 0), (.slice none (([] : List Int).length) 0), (.bool false), (.slice none (([] : List Int).length) 0), (.slice none (([] : List Int).length) 0)] := hb_15
 refine lA (.int .i64 0) ?_
 refine lN (wS (wS (wR ?_)))
 replace hb_5 := (hb_5.gr hg_9).gr hg_14
 refine lV (.agg #[(.string p0_n.1), (.slice a0_0 p0_n.2.1.length cap0_0), (.slice a0_2 p0_n.2.2.1.length cap0_2), (.slice a0_4 p0_n.2.2.2.1.length cap0_4), (.slice a0_6 p0_n.2.2.2.2.length cap0_6)]) (r_ldN Tryz.isAgg28 Tryz.sizeOf28 rfl rfl hb_5.atN) ?_
 obtain ⟨r_16, hr_17, hm⟩ := bS hm
 replace h0_0 := (((h0_0.keep (Stay.start col w0)).gr hg_4).gr hg_9).gr hg_14
 replace h0_2 := (((h0_2.keep (Stay.start col w0)).gr hg_4).gr hg_9).gr hg_14
 replace h0_4 := (((h0_4.keep (Stay.start col w0)).gr hg_4).gr hg_9).gr hg_14
 replace h0_6 := (((h0_6.keep (Stay.start col w0)).gr hg_4).gr hg_9).gr hg_14
 refine lc rfl rfl (r_call1 Tryz.call69 rfl) (c_model_Check N col_13 _ a0_0 cap0_0 a0_2 cap0_2 a0_4 cap0_4 a0_6 cap0_6 (p0_n.1, p0_n.2.1, p0_n.2.2.1, p0_n.2.2.2.1, p0_n.2.2.2.2) h0_0 h0_2 h0_4 h0_6 r_16 hr_17) ?_
 rintro _ w_18 ⟨rfl, hg_19⟩
 refine ⟨_, rfl, ?_⟩
 replace hg_19 : Grow col_13 w_12 col_13 w_18 := .of_below hg_19
 refine lA (.int .i64 r_16) ?_
 refine lN (wS (wR ?_))
 refine lM (.int .i64 r_16) ?_
 refine lV (.bool (!decide (r_16 = 0))) (r_neq r_16 0 rfl rfl) ?_
 refine lN ?_
 replace h1 := ((((h1.keep (Stay.start col w0)).gr hg_4).gr hg_9).gr hg_14).gr hg_19
 replace hst := (((hst.grow hg_4).grow hg_9).grow hg_14).grow hg_19
 replace hb_10 := (hb_10.gr hg_14).gr hg_19
 replace h0_0 := h0_0.gr hg_19
 replace h0_2 := h0_2.gr hg_19
 replace h0_4 := h0_4.gr hg_19
 replace h0_6 := h0_6.gr hg_19
 replace hb_5 := hb_5.gr hg_19
 replace hb_15 := hb_15.gr hg_19
 refine wcond (!decide (r_16 = 0)) rfl (fun hb => ?_) (fun hb => ?_)
 ·rw [if_pos hb] at hm
  clear hb
  cases hm
 rw [if_neg (by rw [hb]; decide)] at hm
 clear hb
 refine wK (wS (wS (wR ?_)))
 refine lV (.slice a1 p1_values.length cap1) (r_ld Tryz.isAgg33 rfl hb_10.at1) ?_
 refine lV (.int .i64 (p1_values.length : Int)) (r_len Tryz.underlying33 rfl) ?_
 refine lV (.pointer ((some (⟨g_1, 0, none⟩ : Addr)).map (·.add 1))) (rF (sz := 1) (off := 1) Tryz.underlying28 rfl Tryz.sizeOf23 (by decide) rfl rfl ⟨_, _, rfl⟩) ?_
 refine lV (.slice a0_0 p0_n.2.1.length cap0_0) (r_ld Tryz.isAgg23 rfl ((hb_5.atN).nth (q := 1) (v := (.slice a0_0 p0_n.2.1.length cap0_0)) rfl)) ?_
 refine lV (.int .i64 (p0_n.2.1.length : Int)) (r_len Tryz.underlying23 rfl) ?_
 refine lV (.bool (!decide ((p1_values.length : Int) = (p0_n.2.1.length : Int)))) (r_neq (p1_values.length : Int) (p0_n.2.1.length : Int) rfl rfl) ?_
 refine lN ?_
 refine wcond (!decide ((p1_values.length : Int) = (p0_n.2.1.length : Int))) rfl (fun hb => ?_) (fun hb => ?_)
 ·rw [if_pos hb] at hm
  clear hb
  cases hm
 rw [if_neg (by rw [hb]; decide)] at hm
 clear hb
 refine wK (wS (wS (wR ?_)))
 refine lV (.slice a1 p1_values.length cap1) (r_ld Tryz.isAgg33 rfl hb_10.at1) ?_
 refine lV (.int .i64 (p1_values.length : Int)) (r_len Tryz.underlying33 rfl) ?_
 refine lM (.int .i64 0) ?_
 refine lN (wB ?_)
 refine wloop (fun n f w_22 => ∃ (col_23 : Col) (k_20 : Nat) (v_24 : Bool) (a_26 : Option Addr) (cap_27 : Nat) (v_25 : List Int) (a_30 : Option Addr) (cap_31 : Nat) (v_29 : List Int) (v_33 : Bool) (a_35 : Option Addr) (cap_36 : Nat) (v_34 : List Int) (a_39 : Option Addr) (cap_40 : Nat) (v_38 : List Int) (l_21 : List Int), n = l_21.length ∧ p1_values.drop k_20 = l_21 ∧ m_code_Span_L1 N p0_n p1_values l_21 k_20 v_24 v_25 v_29 v_33 v_34 v_38 = some r ∧ St w0 (col0 col) col_23 w_22 ∧ Sl Rep.str col_23 w_22 a0_0 cap0_0 p0_n.2.1 ∧ Sl (Rep.slice Rep.str) col_23 w_22 a0_2 cap0_2 p0_n.2.2.1 ∧ Sl (Rep.slice (Rep.int .i64)) col_23 w_22 a0_4 cap0_4 p0_n.2.2.2.1 ∧ Sl (Rep.slice (Rep.pair (Rep.pair Rep.bool (Rep.slice (Rep.int .u32))) (Rep.slice (Rep.int .u32)))) col_23 w_22 a0_6 cap0_6 p0_n.2.2.2.2 ∧ Box 28 1 col_23 w_22 g_1 #[(.string p0_n.1), (.slice a0_0 p0_n.2.1.length cap0_0), (.slice a0_2 p0_n.2.2.1.length cap0_2), (.slice a0_4 p0_n.2.2.2.1.length cap0_4), (.slice a0_6 p0_n.2.2.2.2.length cap0_6)] ∧ Sl (Rep.int .i64) col_23 w_22 a1 cap1 p1_values ∧ Box 33 2 col_23 w_22 g_6 #[(.slice a1 p1_values.length cap1)] ∧ Own (Rep.int .u32) 114 4 col_23 w_22 a_26 cap_27 v_25 ∧ Own (Rep.int .u32) 114 5 col_23 w_22 a_30 cap_31 v_29 ∧ Own (Rep.int .u32) 114 6 col_23 w_22 a_35 cap_36 v_34 ∧ Own (Rep.int .u32) 114 7 col_23 w_22 a_39 cap_40 v_38 ∧ Box 62 3 col_23 w_22 g_11 #[(.bool v_24), (.slice a_26 v_25.length cap_27), (.slice a_30 v_29.length cap_31), (.bool v_33), (.slice a_35 v_34.length cap_36), (.slice a_39 v_38.length cap_40)] ∧ f 29 = (.int .i64 (k_20 : Int)) ∧ f 2 = (.pointer (some ⟨g_1, 0, none⟩)) ∧ f 27 = (.slice a1 p1_values.length cap1) ∧ f 28 = (.int .i64 (p1_values.length : Int)) ∧ f 3 = (.pointer (some ⟨g_6, 0, none⟩)) ∧ f 4 = (.pointer (some ⟨g_11, 0, none⟩)) ∧ f 1000000 = (enc [])) p1_values.length ⟨col_13, 0, false, none, 0, ([] : List Int), none, 0, ([] : List Int), false, none, 0, ([] : List Int), none, 0, ([] : List Int), p1_values, rfl, rfl, hm, hst, h0_0, h0_2, h0_4, h0_6, hb_5, h1, hb_10, Own.nil, Own.nil, Own.nil, Own.nil, hb_15, rfl, rfl, rfl, rfl, rfl, rfl, rfl⟩ ?_
 clear hm; intro n f w_22 hI
 obtain ⟨col_23, k_20, v_24, a_26, cap_27, v_25, a_30, cap_31, v_29, v_33, a_35, cap_36, v_34, a_39, cap_40, v_38, l_21, hn, hl, hm, hst, h0_0, h0_2, h0_4, h0_6, hb_5, h1, hb_10, h_28, h_32, h_37, h_41, hb_15, hs29, hs2, hs27, hs28, hs3, hs4, hs1000000⟩ := hI
 subst hn
 refine .lD 29 hs29 ?_
 refine .lD 2 hs2 ?_
 refine .lD 27 hs27 ?_
 refine .lD 28 hs28 ?_
 refine .lD 3 hs3 ?_
 refine .lD 4 hs4 ?_
 refine .lD 1000000 hs1000000 ?_
 clear hs29 hs2 hs27 hs28 hs3 hs4 hs1000000
 cases l_21 with
 | nil =>
  have hk : ¬ ((k_20 : Int) < (p1_values.length : Int)) := by have := List.drop_eq_nil_iff.1 hl; omega
  have hkb := decide_eq_false hk
  rw [m_code_Span_L1.eq_1] at hm
  refine wS (wR ?_)
  refine lV (.bool (decide ((k_20 : Int) < (p1_values.length : Int)))) (r_lss (k_20 : Int) (p1_values.length : Int) rfl rfl) ?_
  refine lN (wS ?_)
  refine wcondF (congrArg Value.bool hkb) ?_
  refine wexit (inB_hit ?_)
  refine wS (wR ?_)
  refine lV (.pointer ((some (⟨g_1, 0, none⟩ : Addr)).map (·.add 3))) (rF (sz := 1) (off := 3) Tryz.underlying28 rfl Tryz.sizeOf25 (by decide) rfl rfl ⟨_, _, rfl⟩) ?_
  refine lV (.slice a0_4 p0_n.2.2.2.1.length cap0_4) (r_ld Tryz.isAgg25 rfl ((hb_5.atN).nth (q := 3) (v := (.slice a0_4 p0_n.2.2.2.1.length cap0_4)) rfl)) ?_
  obtain ⟨r_44, hr_45, hm⟩ := bS hm
  refine lc rfl rfl (r_call1 Tryz.call70 rfl) (c_dag_Order N 8 col_23 _ a0_4 cap0_4 p0_n.2.2.2.1 h0_4 r_44 hr_45) ?_
  rintro _ w_49 ⟨col_51, ra_46, rc_47, rfl, hg_50, rh_48⟩
  refine ⟨_, rfl, ?_⟩
  refine lM (.tuple #[(.slice ra_46 r_44.1.length rc_47), (.int .i64 r_44.2)]) ?_
  refine lV (.slice ra_46 r_44.1.length rc_47) (r_extract rfl rfl) ?_
  refine lV (.int .i64 r_44.2) (r_extract rfl rfl) ?_
  refine lA (.slice ra_46 r_44.1.length rc_47) ?_
  refine lA (.int .i64 r_44.2) ?_
  refine lN (wS (wR ?_))
  replace hb_5 := hb_5.gr hg_50
  refine lV (.agg #[(.string p0_n.1), (.slice a0_0 p0_n.2.1.length cap0_0), (.slice a0_2 p0_n.2.2.1.length cap0_2), (.slice a0_4 p0_n.2.2.2.1.length cap0_4), (.slice a0_6 p0_n.2.2.2.2.length cap0_6)]) (r_ldN Tryz.isAgg28 Tryz.sizeOf28 rfl rfl hb_5.atN) ?_
  refine lM (.slice ra_46 r_44.1.length rc_47) ?_
  refine lV (.func (.func 74) #[] #[(.pointer (some ⟨g_6, 0, none⟩))]) (r_func1 rfl) ?_
  replace h0_0 := h0_0.gr hg_50
  replace h0_0 := h0_0.froz 8
  replace h0_2 := h0_2.gr hg_50
  replace h0_2 := h0_2.froz 8
  replace h0_4 := h0_4.gr hg_50
  replace h0_4 := h0_4.froz 8
  replace h0_6 := h0_6.gr hg_50
  replace h0_6 := h0_6.froz 8
  replace rh_48 := (rh_48).toSlF (Froz.int .i64)
  replace h1 := h1.gr hg_50
  replace h1 := h1.froz 8
  replace hb_10 := hb_10.gr hg_50
  replace hb_10 := hb_10.froz 8 (by decide)
  replace hb_15 := hb_15.gr hg_50
  replace hb_15 := hb_15.froz 8 (by decide)
  replace hst := hst.grow hg_50
  replace hst := hst.froz 8 (by decide) (by decide)
  obtain ⟨r_52, hr_53, hm⟩ := bS hm
  refine lc rfl rfl (r_call3 Tryz.call71 rfl rfl rfl) (c_code_cut_v2c74xs N 9 (frC 8 col_51) _ 2 (by decide) a0_0 cap0_0 a0_2 cap0_2 a0_4 cap0_4 a0_6 cap0_6 (p0_n.1, p0_n.2.1, p0_n.2.2.1, p0_n.2.2.2.1, p0_n.2.2.2.2) ra_46 rc_47 r_44.1 g_6 p1_values a1 cap1 h0_0 h0_2 h0_4 h0_6 rh_48 h1 hb_10 r_52 hr_53) ?_
  rintro _ w_69 ⟨col_71, ra_54, rc_55, ra_57, rc_58, ra_60, rc_61, ra_63, rc_64, ra_66, rc_67, rfl, hg_70, rh_56, rh_59, rh_62, rh_65, rh_68⟩
  refine ⟨_, rfl, ?_⟩
  refine lM (.tuple #[(.slice ra_54 r_52.1.length rc_55), (.agg #[(.bool r_52.2.1.1.1.1), (.slice ra_57 r_52.2.1.1.1.2.length rc_58), (.slice ra_60 r_52.2.1.1.2.length rc_61), (.bool r_52.2.1.2.1.1), (.slice ra_63 r_52.2.1.2.1.2.length rc_64), (.slice ra_66 r_52.2.1.2.2.length rc_67)]), (.bool r_52.2.2)]) ?_
  refine lV (.slice ra_54 r_52.1.length rc_55) (r_extract rfl rfl) ?_
  refine lV (.agg #[(.bool r_52.2.1.1.1.1), (.slice ra_57 r_52.2.1.1.1.2.length rc_58), (.slice ra_60 r_52.2.1.1.2.length rc_61), (.bool r_52.2.1.2.1.1), (.slice ra_63 r_52.2.1.2.1.2.length rc_64), (.slice ra_66 r_52.2.1.2.2.length rc_67)]) (r_extract rfl rfl) ?_
  refine lV (.bool r_52.2.2) (r_extract rfl rfl) ?_
  refine l_alloc (col := col_71) (v := (.agg #[(.bool false), (.slice none (([] : List Int).length) 0), (.slice none (([] : List Int).length) 0), (.bool false), (.slice none (([] : List Int).length) 0), (.slice none (([] : List Int).length) 0)])) 10 rfl Tryz.zeroValue62 ?_
  intro g_72 w_73 col_74 hg_75 hb_76
  replace hb_76 : Box 62 10 col_74 w_73 g_72 #[(.bool false), (.slice none (([] : List Int).length) 0), (.slice none (([] : List Int).length) 0), (.bool false), (.slice none (([] : List Int).length) 0), (.slice none (([] : List Int).length) 0)] := hb_76
  refine lA (.slice ra_54 r_52.1.length rc_55) ?_
  refine l_bstore (v := (.agg #[(.bool r_52.2.1.1.1.1), (.slice ra_57 r_52.2.1.1.1.2.length rc_58), (.slice ra_60 r_52.2.1.1.2.length rc_61), (.bool r_52.2.1.2.1.1), (.slice ra_63 r_52.2.1.2.1.2.length rc_64), (.slice ra_66 r_52.2.1.2.2.length rc_67)])) hb_76 Tryz.sizeOf62 rfl rfl (by intro u hu; simp only [Value.cells, List.mem_cons, List.not_mem_nil, or_false] at hu; rcases hu with rfl | rfl | rfl | rfl | rfl | rfl <;> rfl) rfl rfl ?_
  intro w_77 hk_78 hs_79 hb_80
  clear hb_76
  replace hb_80 : Box 62 10 col_74 w_77 g_72 #[(.bool r_52.2.1.1.1.1), (.slice ra_57 r_52.2.1.1.1.2.length rc_58), (.slice ra_60 r_52.2.1.1.2.length rc_61), (.bool r_52.2.1.2.1.1), (.slice ra_63 r_52.2.1.2.1.2.length rc_64), (.slice ra_66 r_52.2.1.2.2.length rc_67)] := hb_80
  refine lA (.bool r_52.2.2) ?_
  refine lN (wS ?_)
  refine wmix (col := col_74) [(0, 1), (1, 0), (3, 1), (4, 0), (2, 3), (5, 3), (6, 1), (7, 2), (8, 1)] (by kernel_rfl) (by kernel_rfl) ?_
  refine xu (v := (.pointer ((some (⟨g_72, 0, none⟩ : Addr)).map (·.add 0)))) rfl rfl (fun _ => rF (sz := 3) (off := 0) Tryz.underlying62 rfl Tryz.sizeOf40 (by decide) rfl rfl ⟨_, _, rfl⟩) ?_
  refine xv (v := (.agg #[(.bool r_52.2.1.1.1.1), (.slice ra_57 r_52.2.1.1.1.2.length rc_58), (.slice ra_60 r_52.2.1.1.2.length rc_61)])) rfl rfl (fun _ hC => r_ldN Tryz.isAgg40 Tryz.sizeOf40 rfl rfl (((hb_80.atN).part 0 3 _ rfl).gr (Grow.of_below (col := col_74) hC.below))) ?_
  refine xu (v := (.pointer ((some (⟨g_72, 0, none⟩ : Addr)).map (·.add 3)))) rfl rfl (fun _ => rF (sz := 3) (off := 3) Tryz.underlying62 rfl Tryz.sizeOf40 (by decide) rfl rfl ⟨_, _, rfl⟩) ?_
  refine xv (v := (.agg #[(.bool r_52.2.1.2.1.1), (.slice ra_63 r_52.2.1.2.1.2.length rc_64), (.slice ra_66 r_52.2.1.2.2.length rc_67)])) rfl rfl (fun _ hC => r_ldN Tryz.isAgg40 Tryz.sizeOf40 rfl rfl (((hb_80.atN).part 3 3 _ rfl).gr (Grow.of_below (col := col_74) hC.below))) ?_
  refine xe rfl rfl ?_
  intro w_81 hC0
  have hC : Grow col_74 w_77 col_74 w_81 := .of_below hC0.below
  obtain ⟨r_82, hr_83, hm⟩ := bS hm
  replace rh_59 := ((rh_59.gr hg_75).kp hk_78).gr hC
  replace rh_62 := ((rh_62.gr hg_75).kp hk_78).gr hC
  refine lc rfl rfl (r_call1 Tryz.call75 rfl) (c_code_fresh N 11 12 col_74 _ ra_57 rc_58 ra_60 rc_61 ((r_52.2.1.1.1.1, r_52.2.1.1.1.2), r_52.2.1.1.2) rh_59 rh_62 r_82 hr_83) ?_
  rintro _ w_90 ⟨col_92, ra_84, rc_85, ra_87, rc_88, rfl, hg_91, rh_86, rh_89⟩
  refine ⟨_, rfl, ?_⟩
  refine lN ⟨fun w' => Grow col_92 w_90 col_92 w', Grow.refl _ _, fun _ _ h => cls hC0 hg_91 h, ?_⟩
  refine xe rfl rfl ?_
  intro w_93 hC0
  replace hb_15 := ((((hb_15.gr hg_70).gr hg_75).kp hk_78).gr hC).gr hg_91
  replace hst := ((((hst.grow hg_70).grow hg_75).kp hk_78 hs_79).grow hC).grow hg_91
  replace rh_65 := (((rh_65.gr hg_75).kp hk_78).gr hC).gr hg_91
  replace rh_68 := (((rh_68.gr hg_75).kp hk_78).gr hC).gr hg_91
  have hC : Grow col_92 w_90 col_92 w_93 := .of_below hC0.below
  obtain ⟨r_94, hr_95, hm⟩ := bS hm
  replace rh_65 := rh_65.gr hC
  replace rh_68 := rh_68.gr hC
  refine lc rfl rfl (r_call1 Tryz.call75 rfl) (c_code_fresh N 13 14 col_92 _ ra_63 rc_64 ra_66 rc_67 ((r_52.2.1.2.1.1, r_52.2.1.2.1.2), r_52.2.1.2.2) rh_65 rh_68 r_94 hr_95) ?_
  rintro _ w_102 ⟨col_104, ra_96, rc_97, ra_99, rc_100, rfl, hg_103, rh_98, rh_101⟩
  refine ⟨_, rfl, ?_⟩
  refine lN ⟨fun w' => Grow col_104 w_102 col_104 w', Grow.refl _ _, fun _ _ h => cls hC0 hg_103 h, ?_⟩
  refine xu (v := (.agg #[(.bool r_82.1.1), (.slice ra_84 r_82.1.2.length rc_85), (.slice ra_87 r_82.2.length rc_88), (.bool r_94.1.1), (.slice ra_96 r_94.1.2.length rc_97), (.slice ra_99 r_94.2.length rc_100)])) rfl rfl (fun _ => r_build (l := [_, _]) (qs := [(0, 3), (3, 3)]) Tryz.underlying62 Tryz.zeroValue62 ⟨rfl, Tryz.sizeOf40, rfl, Tryz.sizeOf40, trivial⟩ rfl) ?_
  refine xe rfl rfl ?_
  intro w_105 hC0
  replace rh_86 := (rh_86.gr hC).gr hg_103
  replace rh_89 := (rh_89.gr hC).gr hg_103
  replace hb_15 := (hb_15.gr hC).gr hg_103
  replace hst := (hst.grow hC).grow hg_103
  have hC : Grow col_104 w_102 col_104 w_105 := .of_below hC0.below
  replace hb_15 := hb_15.gr hC
  refine l_bstore (v := (.agg #[(.bool r_82.1.1), (.slice ra_84 r_82.1.2.length rc_85), (.slice ra_87 r_82.2.length rc_88), (.bool r_94.1.1), (.slice ra_96 r_94.1.2.length rc_97), (.slice ra_99 r_94.2.length rc_100)])) hb_15 Tryz.sizeOf62 rfl rfl (by intro u hu; simp only [Value.cells, List.mem_cons, List.not_mem_nil, or_false] at hu; rcases hu with rfl | rfl | rfl | rfl | rfl | rfl <;> rfl) rfl rfl ?_
  intro w_106 hk_107 hs_108 hb_109
  clear hb_15
  replace hb_109 : Box 62 3 col_104 w_106 g_11 #[(.bool r_82.1.1), (.slice ra_84 r_82.1.2.length rc_85), (.slice ra_87 r_82.2.length rc_88), (.bool r_94.1.1), (.slice ra_96 r_94.1.2.length rc_97), (.slice ra_99 r_94.2.length rc_100)] := hb_109
  refine lN ⟨fun w' => Grow col_104 w_106 col_104 w', Grow.refl _ _, fun h => absurd h (by decide), ?_⟩
  refine xu (v := (.int .i64 0)) rfl rfl (fun _ => r_assign rfl) ?_
  refine xnil ?_
  replace rh_86 := (rh_86.gr hC).kp hk_107
  replace rh_89 := (rh_89.gr hC).kp hk_107
  replace rh_98 := (rh_98.gr hC).kp hk_107
  replace rh_101 := (rh_101.gr hC).kp hk_107
  replace hst := (hst.grow hC).kp hk_107 hs_108
  intro w_110 hC
  replace hC : Grow col_104 w_106 col_104 w_110 := .of_below hC.below
  refine wret ?_
  cases hm
  replace rh_86 := rh_86.gr hC
  replace rh_89 := rh_89.gr hC
  replace rh_98 := rh_98.gr hC
  replace rh_101 := rh_101.gr hC
  replace hb_109 := hb_109.gr hC
  replace hst := hst.grow hC
  exact ⟨rfl, _, res_at rfl rfl Tryz.isAgg62 Tryz.sizeOf62 rfl rfl hb_109.atN rfl rfl, colF w0.heap.size col col_104 (fun n => bif Nat.beq n 11 then c1 else bif Nat.beq n 12 then c2 else bif Nat.beq n 13 then c3 else bif Nat.beq n 14 then c4 else 0), ra_84, rc_85, ra_87, rc_88, ra_96, rc_97, ra_99, rc_100, rfl, hst.fin (fun n => bif Nat.beq n 11 then c1 else bif Nat.beq n 12 then c2 else bif Nat.beq n 13 then c3 else bif Nat.beq n 14 then c4 else 0), hst.finOwn (g := (fun n => bif Nat.beq n 11 then c1 else bif Nat.beq n 12 then c2 else bif Nat.beq n 13 then c3 else bif Nat.beq n 14 then c4 else 0)) rfl rh_86 (by decide) (by decide) rfl, hst.finOwn (g := (fun n => bif Nat.beq n 11 then c1 else bif Nat.beq n 12 then c2 else bif Nat.beq n 13 then c3 else bif Nat.beq n 14 then c4 else 0)) rfl rh_89 (by decide) (by decide) rfl, hst.finOwn (g := (fun n => bif Nat.beq n 11 then c1 else bif Nat.beq n 12 then c2 else bif Nat.beq n 13 then c3 else bif Nat.beq n 14 then c4 else 0)) rfl rh_98 (by decide) (by decide) rfl, hst.finOwn (g := (fun n => bif Nat.beq n 11 then c1 else bif Nat.beq n 12 then c2 else bif Nat.beq n 13 then c3 else bif Nat.beq n 14 then c4 else 0)) rfl rh_101 (by decide) (by decide) rfl⟩
 | cons x_42 l_43 =>
  obtain ⟨hat, hl2_L1, hlt_L1⟩ := drop_get hl
  have hk : (k_20 : Int) < (p1_values.length : Int) := by omega
  have hkb := decide_eq_true hk
  rw [m_code_Span_L1.eq_2] at hm
  refine wS (wR ?_)
  refine lV (.bool (decide ((k_20 : Int) < (p1_values.length : Int)))) (r_lss (k_20 : Int) (p1_values.length : Int) rfl rfl) ?_
  refine lN (wS ?_)
  refine wcondT (congrArg Value.bool hkb) ?_
  refine wK (wS (wB (wS (wR ?_))))
  refine lM (.int .i64 (k_20 : Int)) ?_
  refine lV (sptr a1 (Int.toNat (k_20 : Int) * 1)) (r_idx Tryz.underlying33 Tryz.sizeOf3 rfl rfl (at?_some hat).1 (at?_some hat).2.1 (h1.addr hat)) ?_
  refine lV (.int .i64 x_42) (r_ld Tryz.isAgg3 rfl (h1.atInt hat)) ?_
  refine lA (.int .i64 (k_20 : Int)) ?_
  refine lA (.int .i64 x_42) ?_
  refine lN (wS ?_)
  refine Wp.cut (fun f w_127 => ∃ (col_128 : Col) (v_129 : Bool), m_code_Span_J1 k_20 v_24 v_25 v_29 v_33 v_34 v_38 (m_code_Span_L1 N p0_n p1_values l_43) v_129 = some r ∧ St w0 (col0 col) col_128 w_127 ∧ Sl Rep.str col_128 w_127 a0_0 cap0_0 p0_n.2.1 ∧ Sl (Rep.slice Rep.str) col_128 w_127 a0_2 cap0_2 p0_n.2.2.1 ∧ Sl (Rep.slice (Rep.int .i64)) col_128 w_127 a0_4 cap0_4 p0_n.2.2.2.1 ∧ Sl (Rep.slice (Rep.pair (Rep.pair Rep.bool (Rep.slice (Rep.int .u32))) (Rep.slice (Rep.int .u32)))) col_128 w_127 a0_6 cap0_6 p0_n.2.2.2.2 ∧ Box 28 1 col_128 w_127 g_1 #[(.string p0_n.1), (.slice a0_0 p0_n.2.1.length cap0_0), (.slice a0_2 p0_n.2.2.1.length cap0_2), (.slice a0_4 p0_n.2.2.2.1.length cap0_4), (.slice a0_6 p0_n.2.2.2.2.length cap0_6)] ∧ Sl (Rep.int .i64) col_128 w_127 a1 cap1 p1_values ∧ Box 33 2 col_128 w_127 g_6 #[(.slice a1 p1_values.length cap1)] ∧ Own (Rep.int .u32) 114 4 col_128 w_127 a_26 cap_27 v_25 ∧ Own (Rep.int .u32) 114 5 col_128 w_127 a_30 cap_31 v_29 ∧ Own (Rep.int .u32) 114 6 col_128 w_127 a_35 cap_36 v_34 ∧ Own (Rep.int .u32) 114 7 col_128 w_127 a_39 cap_40 v_38 ∧ Box 62 3 col_128 w_127 g_11 #[(.bool v_24), (.slice a_26 v_25.length cap_27), (.slice a_30 v_29.length cap_31), (.bool v_33), (.slice a_35 v_34.length cap_36), (.slice a_39 v_38.length cap_40)] ∧ f 2 = (.pointer (some ⟨g_1, 0, none⟩)) ∧ f 27 = (.slice a1 p1_values.length cap1) ∧ f 28 = (.int .i64 (p1_values.length : Int)) ∧ f 29 = (.int .i64 (k_20 : Int)) ∧ f 3 = (.pointer (some ⟨g_6, 0, none⟩)) ∧ f 4 = (.pointer (some ⟨g_11, 0, none⟩)) ∧ f 45 = (.bool v_129) ∧ f 1000000 = (enc [])) ?_ ?_
  ·intro f w_127 hJ
   obtain ⟨col_128, v_129, hm, hst, h0_0, h0_2, h0_4, h0_6, hb_5, h1, hb_10, h_28, h_32, h_37, h_41, hb_15, hs2, hs27, hs28, hs29, hs3, hs4, hs45, hs1000000⟩ := hJ
   rw [m_code_Span_J1.eq_1] at hm
   refine .lD 2 hs2 ?_
   refine .lD 27 hs27 ?_
   refine .lD 28 hs28 ?_
   refine .lD 29 hs29 ?_
   refine .lD 3 hs3 ?_
   refine .lD 4 hs4 ?_
   refine .lD 45 hs45 ?_
   refine .lD 1000000 hs1000000 ?_
   clear hs2 hs27 hs28 hs29 hs3 hs4 hs45 hs1000000
   refine wcond (v_129) rfl (fun hb => ?_) (fun hb => ?_)
   ·rw [if_pos hb] at hm
    clear hb
    cases hm
   rw [if_neg (by rw [hb]; decide)] at hm
   clear hb
   refine wK (wR ?_)
   refine lV (.int .i64 (IntKind.i64.wrap ((k_20 : Int) + 1))) (r_add (k_20 : Int) 1 rfl rfl) ?_
   refine lM (.int .i64 (IntKind.i64.wrap ((k_20 : Int) + 1))) ?_
   refine lN ?_
   exact ⟨l_43.length, by simp, ⟨col_128, (k_20 + 1), v_24, a_26, cap_27, v_25, a_30, cap_31, v_29, v_33, a_35, cap_36, v_34, a_39, cap_40, v_38, l_43, rfl, hl2_L1, hm, hst, h0_0, h0_2, h0_4, h0_6, hb_5, h1, hb_10, h_28, h_32, h_37, h_41, hb_15, (congrArg (Value.int .i64) (wrap_succ (Nat.lt_of_lt_of_le hlt_L1 h1.1.1))), rfl, rfl, rfl, rfl, rfl, rfl⟩⟩
  refine wR ?_
  refine lM (.int .i64 x_42) ?_
  refine lV (.bool (decide (x_42 < 0))) (r_lss x_42 0 rfl rfl) ?_
  refine lM (.bool (decide (x_42 < 0))) ?_
  by_cases hg_130 : (decide (x_42 < 0)) = true
  ·rw [if_pos hg_130] at hm
   refine lp (b := decide (x_42 < 0)) 36 rfl rfl rfl rfl (by rw [hg_130]; rfl) ?_
   refine lp (b := decide (x_42 < 0)) 36 rfl rfl rfl rfl (by rw [hg_130]; rfl) ?_
   refine lp (b := decide (x_42 < 0)) 36 rfl rfl rfl rfl (by rw [hg_130]; rfl) ?_
   refine lp (b := decide (x_42 < 0)) 36 rfl rfl rfl rfl (by rw [hg_130]; rfl) ?_
   refine lp (b := decide (x_42 < 0)) 36 rfl rfl rfl rfl (by rw [hg_130]; rfl) ?_
   refine lp (b := decide (x_42 < 0)) 36 rfl rfl rfl rfl (by rw [hg_130]; rfl) ?_
   refine lp (b := decide (x_42 < 0)) 36 rfl rfl rfl rfl (by rw [hg_130]; rfl) ?_
   refine lp (b := decide (x_42 < 0)) 36 rfl rfl rfl rfl (by rw [hg_130]; rfl) ?_
   refine lV (.bool true) (r_pickT (congrArg Value.bool hg_130) rfl) ?_
   refine lN ?_
   exact ⟨col_23, true, hm, hst, h0_0, h0_2, h0_4, h0_6, hb_5, h1, hb_10, h_28, h_32, h_37, h_41, hb_15, rfl, rfl, rfl, rfl, rfl, rfl, rfl, rfl⟩
  rw [if_neg hg_130] at hm
  replace hg_130 := Bool.eq_false_iff.2 hg_130
  refine lg (b := decide (x_42 < 0)) 36 rfl rfl rfl (by rw [hg_130]; rfl) ?_
  refine lM (.int .i64 x_42) ?_
  refine lg (b := decide (x_42 < 0)) 36 rfl rfl rfl (by rw [hg_130]; rfl) ?_
  refine lV (.pointer ((some (⟨g_1, 0, none⟩ : Addr)).map (·.add 2))) (rF (sz := 1) (off := 2) Tryz.underlying28 rfl Tryz.sizeOf24 (by decide) rfl rfl ⟨_, _, rfl⟩) ?_
  refine lg (b := decide (x_42 < 0)) 36 rfl rfl rfl (by rw [hg_130]; rfl) ?_
  refine lV (.slice a0_2 p0_n.2.2.1.length cap0_2) (r_ld Tryz.isAgg24 rfl ((hb_5.atN).nth (q := 2) (v := (.slice a0_2 p0_n.2.2.1.length cap0_2)) rfl)) ?_
  refine lg (b := decide (x_42 < 0)) 36 rfl rfl rfl (by rw [hg_130]; rfl) ?_
  refine lM (.int .i64 (k_20 : Int)) ?_
  refine lg (b := decide (x_42 < 0)) 36 rfl rfl rfl (by rw [hg_130]; rfl) ?_
  obtain ⟨e_131, hj_132, hm⟩ := bS hm
  refine lV (sptr a0_2 (Int.toNat (k_20 : Int) * 1)) (r_idx Tryz.underlying24 Tryz.sizeOf23 rfl rfl (at?_some hj_132).1 (at?_some hj_132).2.1 (h0_2.addr hj_132)) ?_
  refine lg (b := decide (x_42 < 0)) 36 rfl rfl rfl (by rw [hg_130]; rfl) ?_
  obtain ⟨_, hr_133, hA_134⟩ := h0_2.atN hj_132
  obtain ⟨⟨a_135, cap_136, rfl, h_137⟩, _⟩ := hr_133
  refine lV (.slice a_135 e_131.length cap_136) (r_ld Tryz.isAgg23 rfl hA_134.one) ?_
  refine lg (b := decide (x_42 < 0)) 36 rfl rfl rfl (by rw [hg_130]; rfl) ?_
  refine lV (.int .i64 (e_131.length : Int)) (r_len Tryz.underlying23 rfl) ?_
  refine lg (b := decide (x_42 < 0)) 36 rfl rfl rfl (by rw [hg_130]; rfl) ?_
  refine lV (.bool (decide ((e_131.length : Int) ≤ x_42))) (r_geq x_42 (e_131.length : Int) rfl rfl) ?_
  refine lV (.bool (decide ((e_131.length : Int) ≤ x_42))) (r_pickF (congrArg Value.bool hg_130) rfl) ?_
  refine lN ?_
  exact ⟨col_23, (decide ((e_131.length : Int) ≤ x_42)), hm, hst, h0_0, h0_2, h0_4, h0_6, hb_5, h1, hb_10, h_28, h_32, h_37, h_41, hb_15, rfl, rfl, rfl, rfl, rfl, rfl, rfl, rfl⟩
def m_nat_left_L1 (p1_n : Int) : List Int → Nat → (List Int) → Option (List Int)
  | [], k_7, out_11 => some out_11
  | x_15 :: l_16, k_7, out_11 => (at? out_11 (k_7 : Int)).bind fun e_17 => chk (0 ≤ p1_n) ((some (out_11.set (Int.toNat (k_7 : Int)) (ior .u32 e_17 (ishl .u32 x_15 p1_n)))).bind fun xs_26 => chk (0 ≤ p1_n) ((at? xs_26 (IntKind.i64.wrap ((k_7 : Int) + 1))).bind fun e_29 => (some (xs_26.set (Int.toNat (IntKind.i64.wrap ((k_7 : Int) + 1))) (IntKind.u32.wrap (ishr .u64 (ishl .u64 (IntKind.u64.wrap x_15) p1_n) 32)))).bind fun xs_36 => (m_nat_left_L1 p1_n l_16) (k_7 + 1) xs_36))
termination_by structural x => x
def m_nat_left (p0_a : (List Int)) (p1_n : Int) : Option (List Int) :=
  chk ((Int.toNat (IntKind.i64.wrap ((p0_a.length : Int) + 1))) * 4 ≤ 281474976710656 ∧ (Int.toNat (IntKind.i64.wrap ((p0_a.length : Int) + 1))) ≤ maxLen ∧ 0 ≤ (IntKind.i64.wrap ((p0_a.length : Int) + 1))) (m_nat_left_L1 p1_n p0_a 0 (List.replicate (Int.toNat (IntKind.i64.wrap ((p0_a.length : Int) + 1))) (0 : Int)))
theorem c_nat_left (c1 : Nat) (col : Col) (w0 : World) (a0 : Option Addr) (cap0 : Nat) (p0_a : (List Int)) (p1_n : Int) (h0 : Sl (Rep.int .u32) col w0 a0 cap0 p0_a) (r : (List Int)) (hm : m_nat_left p0_a p1_n = some r) :
    Calls Tryz.prog 144 #[(.slice a0 p0_a.length cap0), (.int .i64 p1_n)] w0 (fun e w' => ∃ (col' : Col) (ra1 : Option Addr) (rc2 : Nat), e = .returned ((.slice ra1 r.length rc2)) ∧ Grow col w0 col' w' ∧ Own (Rep.int .u32) 114 c1 col' w' ra1 rc2 r) := by
 refine calls_of1 4 (m := 40) (args := [(.slice a0 p0_a.length cap0), (.int .i64 p1_n)]) Tryz.func144 rfl rfl rfl rfl rfl ?_
 rw [m_nat_left.eq_1] at hm
 have hst := St.start col w0
 refine wS (wR ?_)
 refine lA (.slice none (([] : List Int).length) 0) ?_
 refine lN (wS (wR ?_))
 refine lM (.slice a0 p0_a.length cap0) ?_
 refine lV (.int .i64 (p0_a.length : Int)) (r_len Tryz.underlying36 rfl) ?_
 refine lV (.int .i64 (IntKind.i64.wrap ((p0_a.length : Int) + 1))) (r_add (p0_a.length : Int) 1 rfl rfl) ?_
 obtain ⟨hb_1, hm⟩ := cS hm
 refine l_make (col := (col0 col)) (w := w0) (r := (Rep.int .u32)) (n := (Int.toNat (IntKind.i64.wrap ((p0_a.length : Int) + 1)))) (x0 := 0) 1 rfl Tryz.underlying36 Tryz.t114 rfl rfl rfl rfl rfl (congrArg (Value.int _) (Int.toNat_of_nonneg hb_1.2.2).symm) (congrArg (Value.int _) (Int.toNat_of_nonneg hb_1.2.2).symm) hb_1.1 hb_1.2.1 (rd_int .u32 0) ?_
 intro a_2 w_3 col_4 hg_5 h_6
 refine lA (.slice a_2 ((List.replicate (Int.toNat (IntKind.i64.wrap ((p0_a.length : Int) + 1))) (0 : Int)).length) (Int.toNat (IntKind.i64.wrap ((p0_a.length : Int) + 1)))) ?_
 refine lN (wS (wS (wR ?_)))
 refine lM (.slice a0 p0_a.length cap0) ?_
 refine lV (.int .i64 (p0_a.length : Int)) (r_len Tryz.underlying36 rfl) ?_
 refine lM (.int .i64 0) ?_
 refine lN (wB ?_)
 replace h0 := (h0.keep (Stay.start col w0)).gr hg_5
 replace hst := hst.grow hg_5
 refine wloop (fun n f w_9 => ∃ (col_10 : Col) (k_7 : Nat) (a_12 : Option Addr) (cap_13 : Nat) (out_11 : List Int) (l_8 : List Int), n = l_8.length ∧ p0_a.drop k_7 = l_8 ∧ m_nat_left_L1 p1_n l_8 k_7 out_11 = some r ∧ St w0 (col0 col) col_10 w_9 ∧ Sl (Rep.int .u32) col_10 w_9 a0 cap0 p0_a ∧ Own (Rep.int .u32) 114 1 col_10 w_9 a_12 cap_13 out_11 ∧ f 14 = (.int .i64 (k_7 : Int)) ∧ f 1 = (.int .i64 p1_n) ∧ f 12 = (.slice a0 p0_a.length cap0) ∧ f 13 = (.int .i64 (p0_a.length : Int)) ∧ f 5 = (.slice a_12 out_11.length cap_13) ∧ f 1000000 = (enc [])) p0_a.length ⟨col_4, 0, a_2, (Int.toNat (IntKind.i64.wrap ((p0_a.length : Int) + 1))), (List.replicate (Int.toNat (IntKind.i64.wrap ((p0_a.length : Int) + 1))) (0 : Int)), p0_a, rfl, rfl, hm, hst, h0, h_6, rfl, rfl, rfl, rfl, rfl, rfl⟩ ?_
 clear hm; intro n f w_9 hI
 obtain ⟨col_10, k_7, a_12, cap_13, out_11, l_8, hn, hl, hm, hst, h0, h_14, hs14, hs1, hs12, hs13, hs5, hs1000000⟩ := hI
 subst hn
 refine .lD 14 hs14 ?_
 refine .lD 1 hs1 ?_
 refine .lD 12 hs12 ?_
 refine .lD 13 hs13 ?_
 refine .lD 5 hs5 ?_
 refine .lD 1000000 hs1000000 ?_
 clear hs14 hs1 hs12 hs13 hs5 hs1000000
 cases l_8 with
 | nil =>
  have hk : ¬ ((k_7 : Int) < (p0_a.length : Int)) := by have := List.drop_eq_nil_iff.1 hl; omega
  have hkb := decide_eq_false hk
  rw [m_nat_left_L1.eq_1] at hm
  refine wS (wR ?_)
  refine lV (.bool (decide ((k_7 : Int) < (p0_a.length : Int)))) (r_lss (k_7 : Int) (p0_a.length : Int) rfl rfl) ?_
  refine lN (wS ?_)
  refine wcondF (congrArg Value.bool hkb) ?_
  refine wexit (inB_hit ?_)
  refine wS (wR ?_)
  refine lM (.slice a_12 out_11.length cap_13) ?_
  refine lA (.slice a_12 out_11.length cap_13) ?_
  refine lN ?_
  refine wret ?_
  cases hm
  exact ⟨rfl, colF w0.heap.size col col_10 (fun n => bif Nat.beq n 1 then c1 else 0), a_12, cap_13, rfl, hst.fin (fun n => bif Nat.beq n 1 then c1 else 0), hst.finOwn (g := (fun n => bif Nat.beq n 1 then c1 else 0)) rfl h_14 (by decide) (by decide) rfl⟩
 | cons x_15 l_16 =>
  obtain ⟨hat, hl2_L1, hlt_L1⟩ := drop_get hl
  have hk : (k_7 : Int) < (p0_a.length : Int) := by omega
  have hkb := decide_eq_true hk
  rw [m_nat_left_L1.eq_2] at hm
  refine wS (wR ?_)
  refine lV (.bool (decide ((k_7 : Int) < (p0_a.length : Int)))) (r_lss (k_7 : Int) (p0_a.length : Int) rfl rfl) ?_
  refine lN (wS ?_)
  refine wcondT (congrArg Value.bool hkb) ?_
  refine wK (wS (wB (wS (wR ?_))))
  refine lM (.int .i64 (k_7 : Int)) ?_
  refine lV (sptr a0 (Int.toNat (k_7 : Int) * 1)) (r_idx Tryz.underlying36 Tryz.sizeOf114 rfl rfl (at?_some hat).1 (at?_some hat).2.1 (h0.addr hat)) ?_
  refine lV (.int .u32 x_15) (r_ld Tryz.isAgg114 rfl (h0.atInt hat)) ?_
  refine lA (.int .i64 (k_7 : Int)) ?_
  refine lA (.int .u32 x_15) ?_
  refine lN (wS ?_)
  refine wmix (col := col_10) [(0, 1), (1, 1), (2, 1), (3, 0), (4, 1), (5, 1), (6, 1), (7, 1), (8, 1), (9, 2)] (by kernel_rfl) (by kernel_rfl) ?_
  refine xu (v := (.slice a_12 out_11.length cap_13)) rfl rfl (fun _ => r_move rfl) ?_
  refine xu (v := (.int .i64 (k_7 : Int))) rfl rfl (fun _ => r_move rfl) ?_
  obtain ⟨e_17, hj_18, hm⟩ := bS hm
  refine xu (v := (sptr a_12 (Int.toNat (k_7 : Int) * 1))) rfl rfl (fun _ => r_idx Tryz.underlying36 Tryz.sizeOf114 rfl rfl (at?_some hj_18).1 (at?_some hj_18).2.1 (h_14.addr hj_18)) ?_
  refine xv (v := (.int .u32 e_17)) rfl rfl (fun _ hC => r_ld Tryz.isAgg114 rfl ((h_14.gr (Grow.of_below (col := col_10) hC.below)).atInt hj_18)) ?_
  refine xu (v := (.int .u32 x_15)) rfl rfl (fun _ => r_move rfl) ?_
  refine xu (v := (.int .i64 p1_n)) rfl rfl (fun _ => r_move rfl) ?_
  obtain ⟨h0_19, hm⟩ := cS hm
  refine xu (v := (.int .u32 (ishl .u32 x_15 p1_n))) rfl rfl (fun _ => r_shl x_15 p1_n rfl rfl h0_19) ?_
  refine xu (v := (.int .u32 (ior .u32 e_17 (ishl .u32 x_15 p1_n)))) rfl rfl (fun _ => r_or e_17 (ishl .u32 x_15 p1_n) rfl rfl) ?_
  refine xu (v := (sptr a_12 (Int.toNat (k_7 : Int) * 1))) rfl rfl (fun _ => r_idx Tryz.underlying36 Tryz.sizeOf114 rfl rfl (at?_some hj_18).1 (at?_some hj_18).2.1 (h_14.addr hj_18)) ?_
  refine xe rfl rfl ?_
  intro w_20 hC0
  have hC : Grow col_10 w_9 col_10 w_20 := .of_below hC0.below
  obtain ⟨xs_26, hz_25, hm⟩ := bS hm
  have hz_25 : xs_26 = out_11.set (Int.toNat (k_7 : Int)) (ior .u32 e_17 (ishl .u32 x_15 p1_n)) := (Option.some.inj hz_25).symm
  replace h_14 := h_14.gr hC
  refine l_store (x1 := ior .u32 e_17 (ishl .u32 x_15 p1_n)) (v := (.int .u32 (ior .u32 e_17 (ishl .u32 x_15 p1_n)))) h_14 hj_18 rfl Tryz.sizeOf114 (rd_int .u32 (ior .u32 e_17 (ishl .u32 x_15 p1_n))) rfl rfl (by decide) ?_
  intro w_21 hk_22 hs_23 h_24
  rw [← hz_25] at h_24
  refine .ld (d := 5) (v := (.slice a_12 xs_26.length cap_13)) (congrArg (fun n => Value.slice a_12 n cap_13) (show out_11.length = xs_26.length by rw [hz_25, List.length_set])) ?_
  clear h_14
  refine lN ⟨fun w' => Grow col_10 w_21 col_10 w', Grow.refl _ _, fun h => absurd h (by decide), ?_⟩
  refine xnil ?_
  replace h0 := (h0.gr hC).kp hk_22
  replace hst := (hst.grow hC).kp hk_22 hs_23
  intro w_27 hC
  replace hC : Grow col_10 w_21 col_10 w_27 := .of_below hC.below
  refine wR ?_
  refine lM (.slice a_12 xs_26.length cap_13) ?_
  refine lM (.int .i64 (k_7 : Int)) ?_
  refine lV (.int .i64 (IntKind.i64.wrap ((k_7 : Int) + 1))) (r_add (k_7 : Int) 1 rfl rfl) ?_
  refine lM (.int .u32 x_15) ?_
  refine lV (.int .u64 (IntKind.u64.wrap x_15)) (r_conv x_15 ⟨_, Tryz.underlying114⟩ Tryz.underlying108 rfl) ?_
  refine lM (.int .i64 p1_n) ?_
  obtain ⟨h0_28, hm⟩ := cS hm
  refine lV (.int .u64 (ishl .u64 (IntKind.u64.wrap x_15) p1_n)) (r_shl (IntKind.u64.wrap x_15) p1_n rfl rfl h0_28) ?_
  refine lV (.int .u64 (ishr .u64 (ishl .u64 (IntKind.u64.wrap x_15) p1_n) 32)) (r_shr (ishl .u64 (IntKind.u64.wrap x_15) p1_n) 32 rfl rfl (by decide)) ?_
  refine lV (.int .u32 (IntKind.u32.wrap (ishr .u64 (ishl .u64 (IntKind.u64.wrap x_15) p1_n) 32))) (r_conv (ishr .u64 (ishl .u64 (IntKind.u64.wrap x_15) p1_n) 32) ⟨_, Tryz.underlying108⟩ Tryz.underlying114 rfl) ?_
  obtain ⟨e_29, hj_30, hm⟩ := bS hm
  replace h_24 := h_24.gr hC
  refine lV (sptr a_12 (Int.toNat (IntKind.i64.wrap ((k_7 : Int) + 1)) * 1)) (r_idx Tryz.underlying36 Tryz.sizeOf114 rfl rfl (at?_some hj_30).1 (at?_some hj_30).2.1 (h_24.addr hj_30)) ?_
  obtain ⟨xs_36, hz_35, hm⟩ := bS hm
  have hz_35 : xs_36 = xs_26.set (Int.toNat (IntKind.i64.wrap ((k_7 : Int) + 1))) (IntKind.u32.wrap (ishr .u64 (ishl .u64 (IntKind.u64.wrap x_15) p1_n) 32)) := (Option.some.inj hz_35).symm
  refine l_store (x1 := IntKind.u32.wrap (ishr .u64 (ishl .u64 (IntKind.u64.wrap x_15) p1_n) 32)) (v := (.int .u32 (IntKind.u32.wrap (ishr .u64 (ishl .u64 (IntKind.u64.wrap x_15) p1_n) 32)))) h_24 hj_30 rfl Tryz.sizeOf114 (rd_int .u32 (IntKind.u32.wrap (ishr .u64 (ishl .u64 (IntKind.u64.wrap x_15) p1_n) 32))) rfl rfl (by decide) ?_
  intro w_31 hk_32 hs_33 h_34
  rw [← hz_35] at h_34
  refine .ld (d := 5) (v := (.slice a_12 xs_36.length cap_13)) (congrArg (fun n => Value.slice a_12 n cap_13) (show xs_26.length = xs_36.length by rw [hz_35, List.length_set])) ?_
  clear h_24
  refine lN (wR ?_)
  refine lV (.int .i64 (IntKind.i64.wrap ((k_7 : Int) + 1))) (r_add (k_7 : Int) 1 rfl rfl) ?_
  refine lM (.int .i64 (IntKind.i64.wrap ((k_7 : Int) + 1))) ?_
  refine lN ?_
  replace h0 := (h0.gr hC).kp hk_32
  replace hst := (hst.grow hC).kp hk_32 hs_33
  exact ⟨l_16.length, by simp, ⟨col_10, (k_7 + 1), a_12, cap_13, xs_36, l_16, rfl, hl2_L1, hm, hst, h0, h_34, (congrArg (Value.int .i64) (wrap_succ (Nat.lt_of_lt_of_le hlt_L1 h0.1.1))), rfl, rfl, rfl, rfl, rfl⟩⟩

end Go.Proofs.YtonkjfnjadofpaaGreat
