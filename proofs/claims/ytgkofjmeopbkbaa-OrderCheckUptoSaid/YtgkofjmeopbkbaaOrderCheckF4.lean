/-
  What functions of the program compute, as plain Lean functions (m_..), and proofs that they compute it (c_..). Printed by a program of the author; no conditions.
-/
import Derived.Test.YtgkofjmeopbkbaaFloat
import Derived.Test.YtgkofjmeopbkbaaProg
import Derived.Test.YtgkofjmeopbkbaaCompact
import Derived.Test.YtgkofjmeopbkbaaGraph
import Derived.Test.YtgkofjmeopbkbaaLibSort
import Derived.Test.YtgkofjmeopbkbaaOrderCheckF3
set_option linter.unusedVariables false
namespace Go.Proofs.Ytgkofjmeopbkbaa
open Go Go.RowKit



def m_credenceref18_Check_J1 (i_4 : Int) (kk_L1 : (Int → Option Int)) (v_18 : Bool) : Option Int :=
  if v_18 = true then (some 51) else (kk_L1 (IntKind.i64.wrap (i_4 + 1)))

def m_credenceref18_Check_L1 (N : Nat) (p0_order : (List Int)) (p1_points : (List Int)) : Nat → Int → Option Int
  | 0, _ => none
  | n_1 + 1, i_4 => if (decide (i_4 < (p1_points.length : Int))) = true then ((at? p1_points i_4).bind fun e_19 => (m_credenceref18_times N p0_order e_19).bind fun r_21 => if (!decide (r_21 = 1)) = true then (m_credenceref18_Check_J1 i_4 (m_credenceref18_Check_L1 N p0_order p1_points n_1) true) else ((m_credenceref18_times N p1_points e_19).bind fun r_26 => m_credenceref18_Check_J1 i_4 (m_credenceref18_Check_L1 N p0_order p1_points n_1) (!decide (r_26 = 1)))) else (some 0)

def m_credenceref18_Check (N : Nat) (p0_order : (List Int)) (p1_points : (List Int)) : Option Int :=
  if (!decide ((p0_order.length : Int) = (p1_points.length : Int))) = true then (some 51) else (m_credenceref18_Check_L1 N p0_order p1_points N 0)

set_option maxRecDepth 100000 in
set_option maxHeartbeats 2000000 in
theorem c_credenceref18_Check (N : Nat) (col : Col) (w0 : World) (a0 : Option Addr) (cap0 : Nat) (p0_order : (List Int)) (a1 : Option Addr) (cap1 : Nat) (p1_points : (List Int)) (h0 : Sl (Rep.int .i64) col w0 a0 cap0 p0_order) (h1 : Sl (Rep.int .i64) col w0 a1 cap1 p1_points) (r : Int) (hm : m_credenceref18_Check N p0_order p1_points = some r) :
    Calls Try.prog 46 #[(.slice a0 p0_order.length cap0), (.slice a1 p1_points.length cap1)] w0 (fun e w' => e = .returned ((.int .i64 r)) ∧ Below w0.heap.size w0 w') := by
  refine calls_of1 4 (m := 33) (args := [(.slice a0 p0_order.length cap0), (.slice a1 p1_points.length cap1)]) Try.func46 rfl rfl rfl rfl rfl ?_
  rw [m_credenceref18_Check.eq_1] at hm
  have hst := St.start col w0
  replace h0 := h0.keep (Stay.start col w0)
  replace h1 := h1.keep (Stay.start col w0)
  refine wseq ?_
  refine wregion ?_
  refine lv (v := (.int .i64 0)) rfl rfl (r_assign rfl) ?_
  refine lnil ?_
  refine wseq ?_
  refine wseq ?_
  refine wregion ?_
  refine lv (v := (.slice a0 p0_order.length cap0)) rfl rfl (r_move rfl) ?_
  refine lv (v := (.int .i64 (p0_order.length : Int))) rfl rfl (r_len Try.underlying22 rfl) ?_
  refine lv (v := (.slice a1 p1_points.length cap1)) rfl rfl (r_move rfl) ?_
  refine lv (v := (.int .i64 (p1_points.length : Int))) rfl rfl (r_len Try.underlying22 rfl) ?_
  refine lv (v := (.bool (!decide ((p0_order.length : Int) = (p1_points.length : Int))))) rfl rfl (r_neq (p0_order.length : Int) (p1_points.length : Int) rfl rfl) ?_
  refine lnil ?_
  refine wcond (!decide ((p0_order.length : Int) = (p1_points.length : Int))) rfl (fun hb => ?_) (fun hb => ?_)
  · rw [if_pos hb] at hm
    clear hb
    refine wseq ?_
    refine wregion ?_
    refine lv (v := (.int .i64 51)) rfl rfl (r_assign rfl) ?_
    refine lnil ?_
    refine wret ?_
    cases hm
    exact ⟨rfl, rfl, hst.below⟩
  · rw [if_neg (by rw [hb]; decide)] at hm
    clear hb
    refine wskip ?_
    refine wseq ?_
    refine wseq ?_
    refine wregion ?_
    refine lv (v := (.int .i64 0)) rfl rfl (r_assign rfl) ?_
    refine lnil ?_
    refine wblock ?_
    refine wloop (fun n f w_2 => ∃ (col_3 : Col) (i_4 : Int) (n_1 : Nat), n_1 = n ∧ m_credenceref18_Check_L1 N p0_order p1_points n_1 i_4 = some r ∧ St w0 (col0 col) col_3 w_2 ∧ Sl (Rep.int .i64) col_3 w_2 a0 cap0 p0_order ∧ Sl (Rep.int .i64) col_3 w_2 a1 cap1 p1_points ∧ f 0 = (.slice a0 p0_order.length cap0) ∧ f 1 = (.slice a1 p1_points.length cap1) ∧ f 5 = (.int .i64 i_4) ∧ f 1000000 = (enc [])) N ⟨(col0 col), 0, N, rfl, hm, hst, h0, h1, rfl, rfl, rfl, rfl⟩ ?_
    clear hm; intro n f w_2 hI
    obtain ⟨col_3, i_4, n_1, hn, hm, hst, h0, h1, hs0, hs1, hs5, hs1000000⟩ := hI
    subst hn
    refine .ld (d := 0) (v := (.slice a0 p0_order.length cap0)) hs0 ?_
    refine .ld (d := 1) (v := (.slice a1 p1_points.length cap1)) hs1 ?_
    refine .ld (d := 5) (v := (.int .i64 i_4)) hs5 ?_
    refine .ld (d := 1000000) (v := (enc [])) hs1000000 ?_
    clear hs0 hs1 hs5 hs1000000
    cases n_1 with
    | zero => rw [m_credenceref18_Check_L1.eq_1] at hm; cases hm
    | succ n_1 =>
      rw [m_credenceref18_Check_L1.eq_2] at hm
      refine wseq ?_
      refine wseq ?_
      refine wregion ?_
      refine lv (v := (.int .i64 i_4)) rfl rfl (r_move rfl) ?_
      refine lv (v := (.slice a1 p1_points.length cap1)) rfl rfl (r_move rfl) ?_
      refine lv (v := (.int .i64 (p1_points.length : Int))) rfl rfl (r_len Try.underlying22 rfl) ?_
      refine lv (v := (.bool (decide (i_4 < (p1_points.length : Int))))) rfl rfl (r_lss i_4 (p1_points.length : Int) rfl rfl) ?_
      refine lnil ?_
      refine wcond (decide (i_4 < (p1_points.length : Int))) rfl (fun hb => ?_) (fun hb => ?_)
      · rw [if_pos hb] at hm
        clear hb
        refine wskip ?_
        refine wseq ?_
        refine wblock ?_
        refine wseq ?_
        refine Wp.cut (fun f w_16 => ∃ (col_17 : Col) (v_18 : Bool), m_credenceref18_Check_J1 i_4 (m_credenceref18_Check_L1 N p0_order p1_points n_1) v_18 = some r ∧ St w0 (col0 col) col_17 w_16 ∧ Sl (Rep.int .i64) col_17 w_16 a0 cap0 p0_order ∧ Sl (Rep.int .i64) col_17 w_16 a1 cap1 p1_points ∧ f 0 = (.slice a0 p0_order.length cap0) ∧ f 1 = (.slice a1 p1_points.length cap1) ∧ f 32 = (.bool v_18) ∧ f 5 = (.int .i64 i_4) ∧ f 1000000 = (enc [])) ?_ ?_
        · intro f w_16 hJ
          obtain ⟨col_17, v_18, hm, hst, h0, h1, hs0, hs1, hs32, hs5, hs1000000⟩ := hJ
          rw [m_credenceref18_Check_J1.eq_1] at hm
          refine .ld (d := 0) (v := (.slice a0 p0_order.length cap0)) hs0 ?_
          refine .ld (d := 1) (v := (.slice a1 p1_points.length cap1)) hs1 ?_
          refine .ld (d := 32) (v := (.bool v_18)) hs32 ?_
          refine .ld (d := 5) (v := (.int .i64 i_4)) hs5 ?_
          refine .ld (d := 1000000) (v := (enc [])) hs1000000 ?_
          clear hs0 hs1 hs32 hs5 hs1000000
          refine wcond (v_18) rfl (fun hb => ?_) (fun hb => ?_)
          · rw [if_pos hb] at hm
            clear hb
            refine wseq ?_
            refine wregion ?_
            refine lv (v := (.int .i64 51)) rfl rfl (r_assign rfl) ?_
            refine lnil ?_
            refine wret ?_
            cases hm
            exact ⟨rfl, rfl, hst.below⟩
          · rw [if_neg (by rw [hb]; decide)] at hm
            clear hb
            refine wskip ?_
            refine wregion ?_
            refine lv (v := (.int .i64 i_4)) rfl rfl (r_move rfl) ?_
            refine lv (v := (.int .i64 (IntKind.i64.wrap (i_4 + 1)))) rfl rfl (r_add i_4 1 rfl rfl) ?_
            refine lv (v := (.int .i64 (IntKind.i64.wrap (i_4 + 1)))) rfl rfl (r_assign rfl) ?_
            refine lnil ?_
            exact ⟨n_1, by omega, ⟨col_17, (IntKind.i64.wrap (i_4 + 1)), n_1, rfl, hm, hst, h0, h1, rfl, rfl, rfl, rfl⟩⟩
        · refine wregion ?_
          refine lv (v := (.slice a0 p0_order.length cap0)) rfl rfl (r_move rfl) ?_
          refine lv (v := (.slice a1 p1_points.length cap1)) rfl rfl (r_move rfl) ?_
          refine lv (v := (.int .i64 i_4)) rfl rfl (r_move rfl) ?_
          obtain ⟨e_19, hj_20, hm⟩ := bind_some hm
          refine lv (v := (sptr a1 (Int.toNat i_4 * 1))) rfl rfl (r_idx Try.underlying22 Try.sizeOf3 rfl rfl (at?_some hj_20).1 (at?_some hj_20).2.1 (h1.addr hj_20)) ?_
          refine lv (v := (.int .i64 e_19)) rfl rfl (r_ld Try.isAgg3 rfl (h1.atInt hj_20)) ?_
          obtain ⟨r_21, hr_22, hm⟩ := bind_some hm
          refine lc rfl rfl (r_call2 Try.call83 rfl rfl) (c_credenceref18_times N col_3 _ a0 cap0 p0_order e_19 h0 r_21 hr_22) ?_
          rintro _ w_23 ⟨rfl, hg_24⟩
          refine ⟨_, rfl, ?_⟩
          replace hg_24 : Grow col_3 w_2 col_3 w_23 := .of_below hg_24
          replace h0 := h0.gr hg_24
          replace h1 := h1.gr hg_24
          replace hst := hst.grow hg_24
          refine lv (v := (.bool (!decide (r_21 = 1)))) rfl rfl (r_neq r_21 1 rfl rfl) ?_
          refine lv (v := (.bool (!decide (r_21 = 1)))) rfl rfl (r_move rfl) ?_
          by_cases hg_25 : (!decide (r_21 = 1)) = true
          · rw [if_pos hg_25] at hm
            refine lp (b := !decide (r_21 = 1)) 24 rfl rfl rfl rfl (by rw [hg_25]; rfl) ?_
            refine lp (b := !decide (r_21 = 1)) 24 rfl rfl rfl rfl (by rw [hg_25]; rfl) ?_
            refine lp (b := !decide (r_21 = 1)) 24 rfl rfl rfl rfl (by rw [hg_25]; rfl) ?_
            refine lp (b := !decide (r_21 = 1)) 24 rfl rfl rfl rfl (by rw [hg_25]; rfl) ?_
            refine lp (b := !decide (r_21 = 1)) 24 rfl rfl rfl rfl (by rw [hg_25]; rfl) ?_
            refine lp (b := !decide (r_21 = 1)) 24 rfl rfl rfl rfl (by rw [hg_25]; rfl) ?_
            refine lp (b := !decide (r_21 = 1)) 24 rfl rfl rfl rfl (by rw [hg_25]; rfl) ?_
            refine lv (v := (.bool true)) rfl rfl (r_pickT (congrArg Value.bool hg_25) rfl) ?_
            refine lnil ?_
            exact ⟨col_3, true, hm, hst, h0, h1, rfl, rfl, rfl, rfl, rfl⟩
          · rw [if_neg hg_25] at hm
            replace hg_25 := Bool.eq_false_iff.2 hg_25
            refine lg (b := !decide (r_21 = 1)) 24 rfl rfl rfl (by rw [hg_25]; rfl) ?_
            refine lv (v := (.slice a1 p1_points.length cap1)) rfl rfl (r_move rfl) ?_
            refine lg (b := !decide (r_21 = 1)) 24 rfl rfl rfl (by rw [hg_25]; rfl) ?_
            refine lv (v := (.slice a1 p1_points.length cap1)) rfl rfl (r_move rfl) ?_
            refine lg (b := !decide (r_21 = 1)) 24 rfl rfl rfl (by rw [hg_25]; rfl) ?_
            refine lv (v := (.int .i64 i_4)) rfl rfl (r_move rfl) ?_
            refine lg (b := !decide (r_21 = 1)) 24 rfl rfl rfl (by rw [hg_25]; rfl) ?_
            refine lv (v := (sptr a1 (Int.toNat i_4 * 1))) rfl rfl (r_idx Try.underlying22 Try.sizeOf3 rfl rfl (at?_some hj_20).1 (at?_some hj_20).2.1 (h1.addr hj_20)) ?_
            refine lg (b := !decide (r_21 = 1)) 24 rfl rfl rfl (by rw [hg_25]; rfl) ?_
            refine lv (v := (.int .i64 e_19)) rfl rfl (r_ld Try.isAgg3 rfl (h1.atInt hj_20)) ?_
            refine lg (b := !decide (r_21 = 1)) 24 rfl rfl rfl (by rw [hg_25]; rfl) ?_
            obtain ⟨r_26, hr_27, hm⟩ := bind_some hm
            refine lc rfl rfl (r_call2 Try.call83 rfl rfl) (c_credenceref18_times N col_3 _ a1 cap1 p1_points e_19 h1 r_26 hr_27) ?_
            rintro _ w_28 ⟨rfl, hg_29⟩
            refine ⟨_, rfl, ?_⟩
            replace hg_29 : Grow col_3 w_23 col_3 w_28 := .of_below hg_29
            replace h0 := h0.gr hg_29
            replace h1 := h1.gr hg_29
            replace hst := hst.grow hg_29
            refine lg (b := !decide (r_21 = 1)) 24 rfl rfl rfl (by rw [hg_25]; rfl) ?_
            refine lv (v := (.bool (!decide (r_26 = 1)))) rfl rfl (r_neq r_26 1 rfl rfl) ?_
            refine lv (v := (.bool (!decide (r_26 = 1)))) rfl rfl (r_pickF (congrArg Value.bool hg_25) rfl) ?_
            refine lnil ?_
            exact ⟨col_3, (!decide (r_26 = 1)), hm, hst, h0, h1, rfl, rfl, rfl, rfl, rfl⟩
      · rw [if_neg (by rw [hb]; decide)] at hm
        clear hb
        refine wexit (inB_hit ?_)
        refine wseq ?_
        refine wregion ?_
        refine lv (v := (.int .i64 0)) rfl rfl (r_assign rfl) ?_
        refine lnil ?_
        refine wret ?_
        cases hm
        exact ⟨rfl, rfl, hst.below⟩




def m_credencelaw18_kept_J1 (i_5 : Int) (kk_L1 : (Int → Option Bool)) : Option Bool :=
  kk_L1 (IntKind.i64.wrap (i_5 + 1))

def m_credencelaw18_kept_J2 (i_5 : Int) (kk_L1 : (Int → Option Bool)) (v_25 : Bool) : Option Bool :=
  if v_25 = true then (some false) else (m_credencelaw18_kept_J1 i_5 kk_L1)

def m_credencelaw18_kept_L1 (N : Nat) (n0 : Nat) (p0_m : (List Int)) (p1_l : (List Int)) : Nat → Int → Option Bool
  | 0, _ => none
  | n_2 + 1, i_5 => if (decide (i_5 < ((p0_m.take (Int.toNat (IntKind.i64.wrap ((p1_l.length : Int) + 9)))).length : Int))) = true then (if (decide (i_5 < (p1_l.length : Int))) = true then ((at? (p0_m.take (Int.toNat (IntKind.i64.wrap ((p1_l.length : Int) + 9)))) i_5).bind fun e_27 => (at? p1_l i_5).bind fun e_29 => if (!decide (e_27 = e_29)) = true then (m_credencelaw18_kept_J2 i_5 (m_credencelaw18_kept_L1 N n0 p0_m p1_l n_2) true) else (if (decide ((p1_l.length : Int) ≤ i_5)) = true then (m_credencelaw18_kept_J2 i_5 (m_credencelaw18_kept_L1 N n0 p0_m p1_l n_2) (!decide (e_27 = (IntKind.i64.wrap ((-70) - (IntKind.i64.wrap (i_5 - (p1_l.length : Int)))))))) else (m_credencelaw18_kept_J2 i_5 (m_credencelaw18_kept_L1 N n0 p0_m p1_l n_2) false))) else (if (decide ((p1_l.length : Int) ≤ i_5)) = true then ((at? (p0_m.take (Int.toNat (IntKind.i64.wrap ((p1_l.length : Int) + 9)))) i_5).bind fun e_37 => m_credencelaw18_kept_J2 i_5 (m_credencelaw18_kept_L1 N n0 p0_m p1_l n_2) (!decide (e_37 = (IntKind.i64.wrap ((-70) - (IntKind.i64.wrap (i_5 - (p1_l.length : Int)))))))) else (m_credencelaw18_kept_J2 i_5 (m_credencelaw18_kept_L1 N n0 p0_m p1_l n_2) false))) else (some (decide (((p0_m.take n0).length : Int) = (p1_l.length : Int))))

def m_credencelaw18_kept (N : Nat) (n0 : Nat) (p0_m : (List Int)) (p1_l : (List Int)) : Option Bool :=
  chk ((0 : Int) ≤ (IntKind.i64.wrap ((p1_l.length : Int) + 9)) ∧ (IntKind.i64.wrap ((p1_l.length : Int) + 9)) ≤ (p0_m.length : Int)) (m_credencelaw18_kept_L1 N n0 p0_m p1_l N 0)

set_option maxRecDepth 100000 in
set_option maxHeartbeats 2000000 in
theorem c_credencelaw18_kept (N : Nat) (col : Col) (w0 : World) (a0 : Option Addr) (cap0 : Nat) (n0 : Nat) (p0_m : (List Int)) (a1 : Option Addr) (cap1 : Nat) (p1_l : (List Int)) (h0 : Sl (Rep.int .i64) col w0 a0 cap0 p0_m) (h1 : Sl (Rep.int .i64) col w0 a1 cap1 p1_l) (r : Bool) (hm : m_credencelaw18_kept N n0 p0_m p1_l = some r) :
    Calls Try.prog 38 #[(.slice a0 ((p0_m.take n0).length) cap0), (.slice a1 p1_l.length cap1)] w0 (fun e w' => e = .returned ((.bool r)) ∧ Below w0.heap.size w0 w') := by
  refine calls_of1 4 (m := 56) (args := [(.slice a0 ((p0_m.take n0).length) cap0), (.slice a1 p1_l.length cap1)]) Try.func38 rfl rfl rfl rfl rfl ?_
  rw [m_credencelaw18_kept.eq_1] at hm
  have hst := St.start col w0
  replace h0 := h0.keep (Stay.start col w0)
  replace h1 := h1.keep (Stay.start col w0)
  refine wseq ?_
  refine wregion ?_
  refine lv (v := (.bool false)) rfl rfl (r_assign rfl) ?_
  refine lnil ?_
  refine wseq ?_
  refine wregion ?_
  refine lv (v := (.slice a0 ((p0_m.take n0).length) cap0)) rfl rfl (r_move rfl) ?_
  refine lv (v := (.slice a1 p1_l.length cap1)) rfl rfl (r_move rfl) ?_
  refine lv (v := (.int .i64 (p1_l.length : Int))) rfl rfl (r_len Try.underlying22 rfl) ?_
  refine lv (v := (.int .i64 (IntKind.i64.wrap ((p1_l.length : Int) + 9)))) rfl rfl (r_add (p1_l.length : Int) 9 rfl rfl) ?_
  obtain ⟨hb_1, hm⟩ := chk_some hm
  refine lv (v := .slice a0 (Int.toNat (IntKind.i64.wrap ((p1_l.length : Int) + 9))) cap0) rfl rfl (r_sliceH Try.underlying22 Try.sizeOf3 rfl rfl hb_1.1 (by have := h0.1.2; have := hb_1.2; omega)) ?_
  refine .ld (d := 11) (v := (.slice a0 ((p0_m.take (Int.toNat (IntKind.i64.wrap ((p1_l.length : Int) + 9)))).length) cap0)) (congrArg (fun n => Value.slice a0 n cap0) (List.length_take_of_le (show (Int.toNat (IntKind.i64.wrap ((p1_l.length : Int) + 9))) ≤ p0_m.length by have := hb_1.2; omega)).symm) ?_
  refine lv (v := (.slice a0 ((p0_m.take (Int.toNat (IntKind.i64.wrap ((p1_l.length : Int) + 9)))).length) cap0)) rfl rfl (r_assign rfl) ?_
  refine lnil ?_
  refine wseq ?_
  refine wseq ?_
  refine wregion ?_
  refine lv (v := (.int .i64 0)) rfl rfl (r_assign rfl) ?_
  refine lnil ?_
  refine wblock ?_
  refine wloop (fun n f w_3 => ∃ (col_4 : Col) (i_5 : Int) (n_2 : Nat), n_2 = n ∧ m_credencelaw18_kept_L1 N n0 p0_m p1_l n_2 i_5 = some r ∧ St w0 (col0 col) col_4 w_3 ∧ Sl (Rep.int .i64) col_4 w_3 a0 cap0 p0_m ∧ Sl (Rep.int .i64) col_4 w_3 a1 cap1 p1_l ∧ f 0 = (.slice a0 ((p0_m.take n0).length) cap0) ∧ f 1 = (.slice a1 p1_l.length cap1) ∧ f 5 = (.slice a0 ((p0_m.take (Int.toNat (IntKind.i64.wrap ((p1_l.length : Int) + 9)))).length) cap0) ∧ f 6 = (.int .i64 i_5) ∧ f 1000000 = (enc [])) N ⟨(col0 col), 0, N, rfl, hm, hst, h0, h1, rfl, rfl, rfl, rfl, rfl⟩ ?_
  clear hm; intro n f w_3 hI
  obtain ⟨col_4, i_5, n_2, hn, hm, hst, h0, h1, hs0, hs1, hs5, hs6, hs1000000⟩ := hI
  subst hn
  refine .ld (d := 0) (v := (.slice a0 ((p0_m.take n0).length) cap0)) hs0 ?_
  refine .ld (d := 1) (v := (.slice a1 p1_l.length cap1)) hs1 ?_
  refine .ld (d := 5) (v := (.slice a0 ((p0_m.take (Int.toNat (IntKind.i64.wrap ((p1_l.length : Int) + 9)))).length) cap0)) hs5 ?_
  refine .ld (d := 6) (v := (.int .i64 i_5)) hs6 ?_
  refine .ld (d := 1000000) (v := (enc [])) hs1000000 ?_
  clear hs0 hs1 hs5 hs6 hs1000000
  cases n_2 with
  | zero => rw [m_credencelaw18_kept_L1.eq_1] at hm; cases hm
  | succ n_2 =>
    rw [m_credencelaw18_kept_L1.eq_2] at hm
    refine wseq ?_
    refine wseq ?_
    refine wregion ?_
    refine lv (v := (.int .i64 i_5)) rfl rfl (r_move rfl) ?_
    refine lv (v := (.slice a0 ((p0_m.take (Int.toNat (IntKind.i64.wrap ((p1_l.length : Int) + 9)))).length) cap0)) rfl rfl (r_move rfl) ?_
    refine lv (v := (.int .i64 ((p0_m.take (Int.toNat (IntKind.i64.wrap ((p1_l.length : Int) + 9)))).length : Int))) rfl rfl (r_len Try.underlying22 rfl) ?_
    refine lv (v := (.bool (decide (i_5 < ((p0_m.take (Int.toNat (IntKind.i64.wrap ((p1_l.length : Int) + 9)))).length : Int))))) rfl rfl (r_lss i_5 ((p0_m.take (Int.toNat (IntKind.i64.wrap ((p1_l.length : Int) + 9)))).length : Int) rfl rfl) ?_
    refine lnil ?_
    refine wcond (decide (i_5 < ((p0_m.take (Int.toNat (IntKind.i64.wrap ((p1_l.length : Int) + 9)))).length : Int))) rfl (fun hb => ?_) (fun hb => ?_)
    · rw [if_pos hb] at hm
      clear hb
      refine wskip ?_
      refine wseq ?_
      refine Wp.cut (fun f w_6 => ∃ (col_7 : Col), m_credencelaw18_kept_J1 i_5 (m_credencelaw18_kept_L1 N n0 p0_m p1_l n_2)  = some r ∧ St w0 (col0 col) col_7 w_6 ∧ Sl (Rep.int .i64) col_7 w_6 a0 cap0 p0_m ∧ Sl (Rep.int .i64) col_7 w_6 a1 cap1 p1_l ∧ f 0 = (.slice a0 ((p0_m.take n0).length) cap0) ∧ f 1 = (.slice a1 p1_l.length cap1) ∧ f 5 = (.slice a0 ((p0_m.take (Int.toNat (IntKind.i64.wrap ((p1_l.length : Int) + 9)))).length) cap0) ∧ f 6 = (.int .i64 i_5) ∧ f 1000000 = (enc [])) ?_ ?_
      · intro f w_6 hJ
        obtain ⟨col_7, hm, hst, h0, h1, hs0, hs1, hs5, hs6, hs1000000⟩ := hJ
        rw [m_credencelaw18_kept_J1.eq_1] at hm
        refine .ld (d := 0) (v := (.slice a0 ((p0_m.take n0).length) cap0)) hs0 ?_
        refine .ld (d := 1) (v := (.slice a1 p1_l.length cap1)) hs1 ?_
        refine .ld (d := 5) (v := (.slice a0 ((p0_m.take (Int.toNat (IntKind.i64.wrap ((p1_l.length : Int) + 9)))).length) cap0)) hs5 ?_
        refine .ld (d := 6) (v := (.int .i64 i_5)) hs6 ?_
        refine .ld (d := 1000000) (v := (enc [])) hs1000000 ?_
        clear hs0 hs1 hs5 hs6 hs1000000
        refine wregion ?_
        refine lv (v := (.int .i64 i_5)) rfl rfl (r_move rfl) ?_
        refine lv (v := (.int .i64 (IntKind.i64.wrap (i_5 + 1)))) rfl rfl (r_add i_5 1 rfl rfl) ?_
        refine lv (v := (.int .i64 (IntKind.i64.wrap (i_5 + 1)))) rfl rfl (r_assign rfl) ?_
        refine lnil ?_
        exact ⟨n_2, by omega, ⟨col_7, (IntKind.i64.wrap (i_5 + 1)), n_2, rfl, hm, hst, h0, h1, rfl, rfl, rfl, rfl, rfl⟩⟩
      · refine wblock ?_
        refine wseq ?_
        refine Wp.cut (fun f w_23 => ∃ (col_24 : Col) (v_25 : Bool), m_credencelaw18_kept_J2 i_5 (m_credencelaw18_kept_L1 N n0 p0_m p1_l n_2) v_25 = some r ∧ St w0 (col0 col) col_24 w_23 ∧ Sl (Rep.int .i64) col_24 w_23 a0 cap0 p0_m ∧ Sl (Rep.int .i64) col_24 w_23 a1 cap1 p1_l ∧ f 0 = (.slice a0 ((p0_m.take n0).length) cap0) ∧ f 1 = (.slice a1 p1_l.length cap1) ∧ f 5 = (.slice a0 ((p0_m.take (Int.toNat (IntKind.i64.wrap ((p1_l.length : Int) + 9)))).length) cap0) ∧ f 50 = (.bool v_25) ∧ f 6 = (.int .i64 i_5) ∧ f 1000000 = (enc [])) ?_ ?_
        · intro f w_23 hJ
          obtain ⟨col_24, v_25, hm, hst, h0, h1, hs0, hs1, hs5, hs50, hs6, hs1000000⟩ := hJ
          rw [m_credencelaw18_kept_J2.eq_1] at hm
          refine .ld (d := 0) (v := (.slice a0 ((p0_m.take n0).length) cap0)) hs0 ?_
          refine .ld (d := 1) (v := (.slice a1 p1_l.length cap1)) hs1 ?_
          refine .ld (d := 5) (v := (.slice a0 ((p0_m.take (Int.toNat (IntKind.i64.wrap ((p1_l.length : Int) + 9)))).length) cap0)) hs5 ?_
          refine .ld (d := 50) (v := (.bool v_25)) hs50 ?_
          refine .ld (d := 6) (v := (.int .i64 i_5)) hs6 ?_
          refine .ld (d := 1000000) (v := (enc [])) hs1000000 ?_
          clear hs0 hs1 hs5 hs50 hs6 hs1000000
          refine wcond (v_25) rfl (fun hb => ?_) (fun hb => ?_)
          · rw [if_pos hb] at hm
            clear hb
            refine wseq ?_
            refine wregion ?_
            refine lv (v := (.bool false)) rfl rfl (r_assign rfl) ?_
            refine lnil ?_
            refine wret ?_
            cases hm
            exact ⟨rfl, rfl, hst.below⟩
          · rw [if_neg (by rw [hb]; decide)] at hm
            clear hb
            refine wskip ?_
            exact ⟨col_24, hm, hst, h0, h1, rfl, rfl, rfl, rfl, rfl⟩
        · refine wquiet (col := col_4) (by kernel_rfl) (by kernel_rfl) ?_
          refine qv (v := (.int .i64 i_5)) rfl (fun _ hC => r_move rfl) ?_
          refine qv (v := (.slice a1 p1_l.length cap1)) rfl (fun _ hC => r_move rfl) ?_
          refine qv (v := (.int .i64 (p1_l.length : Int))) rfl (fun _ hC => r_len Try.underlying22 rfl) ?_
          refine qv (v := (.bool (decide (i_5 < (p1_l.length : Int))))) rfl (fun _ hC => r_lss i_5 (p1_l.length : Int) rfl rfl) ?_
          refine qv (v := (.bool (decide (i_5 < (p1_l.length : Int))))) rfl (fun _ hC => r_move rfl) ?_
          by_cases hg_26 : (decide (i_5 < (p1_l.length : Int))) = true
          · rw [if_pos hg_26] at hm
            refine qg (b := decide (i_5 < (p1_l.length : Int))) 22 rfl rfl rfl (by rw [hg_26]; rfl) ?_
            refine qv (v := (.slice a0 ((p0_m.take (Int.toNat (IntKind.i64.wrap ((p1_l.length : Int) + 9)))).length) cap0)) rfl (fun _ hC => r_move rfl) ?_
            refine qg (b := decide (i_5 < (p1_l.length : Int))) 22 rfl rfl rfl (by rw [hg_26]; rfl) ?_
            refine qv (v := (.int .i64 i_5)) rfl (fun _ hC => r_move rfl) ?_
            refine qg (b := decide (i_5 < (p1_l.length : Int))) 22 rfl rfl rfl (by rw [hg_26]; rfl) ?_
            obtain ⟨e_27, hj_28, hm⟩ := bind_some hm
            refine qv (v := (sptr a0 (Int.toNat i_5 * 1))) rfl (fun _ hC => r_idx Try.underlying22 Try.sizeOf3 rfl rfl (at?_some hj_28).1 (at?_some hj_28).2.1 ((h0.take (Int.toNat (IntKind.i64.wrap ((p1_l.length : Int) + 9)))).addr hj_28)) ?_
            refine qg (b := decide (i_5 < (p1_l.length : Int))) 22 rfl rfl rfl (by rw [hg_26]; rfl) ?_
            refine qv (v := (.int .i64 e_27)) rfl (fun _ hC => r_ld Try.isAgg3 rfl (((h0.take (Int.toNat (IntKind.i64.wrap ((p1_l.length : Int) + 9)))).gr (Grow.of_below (col := col_4) hC.below)).atInt hj_28)) ?_
            refine qg (b := decide (i_5 < (p1_l.length : Int))) 22 rfl rfl rfl (by rw [hg_26]; rfl) ?_
            refine qv (v := (.slice a1 p1_l.length cap1)) rfl (fun _ hC => r_move rfl) ?_
            refine qg (b := decide (i_5 < (p1_l.length : Int))) 22 rfl rfl rfl (by rw [hg_26]; rfl) ?_
            refine qv (v := (.int .i64 i_5)) rfl (fun _ hC => r_move rfl) ?_
            refine qg (b := decide (i_5 < (p1_l.length : Int))) 22 rfl rfl rfl (by rw [hg_26]; rfl) ?_
            obtain ⟨e_29, hj_30, hm⟩ := bind_some hm
            refine qv (v := (sptr a1 (Int.toNat i_5 * 1))) rfl (fun _ hC => r_idx Try.underlying22 Try.sizeOf3 rfl rfl (at?_some hj_30).1 (at?_some hj_30).2.1 (h1.addr hj_30)) ?_
            refine qg (b := decide (i_5 < (p1_l.length : Int))) 22 rfl rfl rfl (by rw [hg_26]; rfl) ?_
            refine qv (v := (.int .i64 e_29)) rfl (fun _ hC => r_ld Try.isAgg3 rfl ((h1.gr (Grow.of_below (col := col_4) hC.below)).atInt hj_30)) ?_
            refine qg (b := decide (i_5 < (p1_l.length : Int))) 22 rfl rfl rfl (by rw [hg_26]; rfl) ?_
            refine qv (v := (.bool (!decide (e_27 = e_29)))) rfl (fun _ hC => r_neq e_27 e_29 rfl rfl) ?_
            refine qv (v := (.bool (!decide (e_27 = e_29)))) rfl (fun _ hC => r_pickT (congrArg Value.bool hg_26) rfl) ?_
            refine qv (v := (.bool (!decide (e_27 = e_29)))) rfl (fun _ hC => r_move rfl) ?_
            by_cases hg_31 : (!decide (e_27 = e_29)) = true
            · rw [if_pos hg_31] at hm
              refine qp (b := !decide (e_27 = e_29)) 33 rfl rfl rfl rfl (by rw [hg_31]; rfl) ?_
              refine qp (b := !decide (e_27 = e_29)) 33 rfl rfl rfl rfl (by rw [hg_31]; rfl) ?_
              refine qp (b := !decide (e_27 = e_29)) 33 rfl rfl rfl rfl (by rw [hg_31]; rfl) ?_
              refine qp (b := !decide (e_27 = e_29)) 33 rfl rfl rfl rfl (by rw [hg_31]; rfl) ?_
              refine qp (b := !decide (e_27 = e_29)) 33 rfl rfl rfl rfl (by rw [hg_31]; rfl) ?_
              refine qpU 38 rfl rfl rfl rfl ?_
              refine qpU 38 rfl rfl rfl rfl ?_
              refine qpU 38 rfl rfl rfl rfl ?_
              refine qpU 38 rfl rfl rfl rfl ?_
              refine qpU 38 rfl rfl rfl rfl ?_
              refine qpU 38 rfl rfl rfl rfl ?_
              refine qpU 38 rfl rfl rfl rfl ?_
              refine qpU 38 rfl rfl rfl rfl ?_
              refine qpU 38 rfl rfl rfl rfl ?_
              refine qpU 38 rfl rfl rfl rfl ?_
              refine qp (b := !decide (e_27 = e_29)) 33 rfl rfl rfl rfl (by rw [hg_31]; rfl) ?_
              refine qv (v := (.bool true)) rfl (fun _ hC => r_pickT (congrArg Value.bool hg_31) rfl) ?_
              refine qnil ?_
              intro w_32 hC
              replace hC : Grow col_4 w_3 col_4 w_32 := .of_below hC.below
              replace h0 := h0.gr hC
              replace h1 := h1.gr hC
              replace hst := hst.grow hC
              exact ⟨col_4, true, hm, hst, h0, h1, rfl, rfl, rfl, rfl, rfl, rfl⟩
            · rw [if_neg hg_31] at hm
              replace hg_31 := Bool.eq_false_iff.2 hg_31
              refine qg (b := !decide (e_27 = e_29)) 33 rfl rfl rfl (by rw [hg_31]; rfl) ?_
              refine qv (v := (.int .i64 i_5)) rfl (fun _ hC => r_move rfl) ?_
              refine qg (b := !decide (e_27 = e_29)) 33 rfl rfl rfl (by rw [hg_31]; rfl) ?_
              refine qv (v := (.slice a1 p1_l.length cap1)) rfl (fun _ hC => r_move rfl) ?_
              refine qg (b := !decide (e_27 = e_29)) 33 rfl rfl rfl (by rw [hg_31]; rfl) ?_
              refine qv (v := (.int .i64 (p1_l.length : Int))) rfl (fun _ hC => r_len Try.underlying22 rfl) ?_
              refine qg (b := !decide (e_27 = e_29)) 33 rfl rfl rfl (by rw [hg_31]; rfl) ?_
              refine qv (v := (.bool (decide ((p1_l.length : Int) ≤ i_5)))) rfl (fun _ hC => r_geq i_5 (p1_l.length : Int) rfl rfl) ?_
              refine qg (b := !decide (e_27 = e_29)) 33 rfl rfl rfl (by rw [hg_31]; rfl) ?_
              refine qv (v := (.bool (decide ((p1_l.length : Int) ≤ i_5)))) rfl (fun _ hC => r_move rfl) ?_
              by_cases hg_33 : (decide ((p1_l.length : Int) ≤ i_5)) = true
              · rw [if_pos hg_33] at hm
                refine qg (b := decide ((p1_l.length : Int) ≤ i_5)) 38 rfl rfl rfl (by rw [hg_33]; rfl) ?_
                refine qv (v := (.slice a0 ((p0_m.take (Int.toNat (IntKind.i64.wrap ((p1_l.length : Int) + 9)))).length) cap0)) rfl (fun _ hC => r_move rfl) ?_
                refine qg (b := decide ((p1_l.length : Int) ≤ i_5)) 38 rfl rfl rfl (by rw [hg_33]; rfl) ?_
                refine qv (v := (.int .i64 i_5)) rfl (fun _ hC => r_move rfl) ?_
                refine qg (b := decide ((p1_l.length : Int) ≤ i_5)) 38 rfl rfl rfl (by rw [hg_33]; rfl) ?_
                refine qv (v := (sptr a0 (Int.toNat i_5 * 1))) rfl (fun _ hC => r_idx Try.underlying22 Try.sizeOf3 rfl rfl (at?_some hj_28).1 (at?_some hj_28).2.1 ((h0.take (Int.toNat (IntKind.i64.wrap ((p1_l.length : Int) + 9)))).addr hj_28)) ?_
                refine qg (b := decide ((p1_l.length : Int) ≤ i_5)) 38 rfl rfl rfl (by rw [hg_33]; rfl) ?_
                refine qv (v := (.int .i64 e_27)) rfl (fun _ hC => r_ld Try.isAgg3 rfl (((h0.take (Int.toNat (IntKind.i64.wrap ((p1_l.length : Int) + 9)))).gr (Grow.of_below (col := col_4) hC.below)).atInt hj_28)) ?_
                refine qg (b := decide ((p1_l.length : Int) ≤ i_5)) 38 rfl rfl rfl (by rw [hg_33]; rfl) ?_
                refine qv (v := (.int .i64 i_5)) rfl (fun _ hC => r_move rfl) ?_
                refine qg (b := decide ((p1_l.length : Int) ≤ i_5)) 38 rfl rfl rfl (by rw [hg_33]; rfl) ?_
                refine qv (v := (.slice a1 p1_l.length cap1)) rfl (fun _ hC => r_move rfl) ?_
                refine qg (b := decide ((p1_l.length : Int) ≤ i_5)) 38 rfl rfl rfl (by rw [hg_33]; rfl) ?_
                refine qv (v := (.int .i64 (p1_l.length : Int))) rfl (fun _ hC => r_len Try.underlying22 rfl) ?_
                refine qg (b := decide ((p1_l.length : Int) ≤ i_5)) 38 rfl rfl rfl (by rw [hg_33]; rfl) ?_
                refine qv (v := (.int .i64 (IntKind.i64.wrap (i_5 - (p1_l.length : Int))))) rfl (fun _ hC => r_sub i_5 (p1_l.length : Int) rfl rfl) ?_
                refine qg (b := decide ((p1_l.length : Int) ≤ i_5)) 38 rfl rfl rfl (by rw [hg_33]; rfl) ?_
                refine qv (v := (.int .i64 (IntKind.i64.wrap ((-70) - (IntKind.i64.wrap (i_5 - (p1_l.length : Int))))))) rfl (fun _ hC => r_sub (-70) (IntKind.i64.wrap (i_5 - (p1_l.length : Int))) rfl rfl) ?_
                refine qg (b := decide ((p1_l.length : Int) ≤ i_5)) 38 rfl rfl rfl (by rw [hg_33]; rfl) ?_
                refine qv (v := (.bool (!decide (e_27 = (IntKind.i64.wrap ((-70) - (IntKind.i64.wrap (i_5 - (p1_l.length : Int))))))))) rfl (fun _ hC => r_neq e_27 (IntKind.i64.wrap ((-70) - (IntKind.i64.wrap (i_5 - (p1_l.length : Int))))) rfl rfl) ?_
                refine qg (b := !decide (e_27 = e_29)) 33 rfl rfl rfl (by rw [hg_31]; rfl) ?_
                refine qv (v := (.bool (!decide (e_27 = (IntKind.i64.wrap ((-70) - (IntKind.i64.wrap (i_5 - (p1_l.length : Int))))))))) rfl (fun _ hC => r_pickT (congrArg Value.bool hg_33) rfl) ?_
                refine qv (v := (.bool (!decide (e_27 = (IntKind.i64.wrap ((-70) - (IntKind.i64.wrap (i_5 - (p1_l.length : Int))))))))) rfl (fun _ hC => r_pickF (congrArg Value.bool hg_31) rfl) ?_
                refine qnil ?_
                intro w_34 hC
                replace hC : Grow col_4 w_3 col_4 w_34 := .of_below hC.below
                replace h0 := h0.gr hC
                replace h1 := h1.gr hC
                replace hst := hst.grow hC
                exact ⟨col_4, (!decide (e_27 = (IntKind.i64.wrap ((-70) - (IntKind.i64.wrap (i_5 - (p1_l.length : Int))))))), hm, hst, h0, h1, rfl, rfl, rfl, rfl, rfl, rfl⟩
              · rw [if_neg hg_33] at hm
                replace hg_33 := Bool.eq_false_iff.2 hg_33
                refine qp (b := decide ((p1_l.length : Int) ≤ i_5)) 38 rfl rfl rfl rfl (by rw [hg_33]; rfl) ?_
                refine qp (b := decide ((p1_l.length : Int) ≤ i_5)) 38 rfl rfl rfl rfl (by rw [hg_33]; rfl) ?_
                refine qp (b := decide ((p1_l.length : Int) ≤ i_5)) 38 rfl rfl rfl rfl (by rw [hg_33]; rfl) ?_
                refine qp (b := decide ((p1_l.length : Int) ≤ i_5)) 38 rfl rfl rfl rfl (by rw [hg_33]; rfl) ?_
                refine qp (b := decide ((p1_l.length : Int) ≤ i_5)) 38 rfl rfl rfl rfl (by rw [hg_33]; rfl) ?_
                refine qp (b := decide ((p1_l.length : Int) ≤ i_5)) 38 rfl rfl rfl rfl (by rw [hg_33]; rfl) ?_
                refine qp (b := decide ((p1_l.length : Int) ≤ i_5)) 38 rfl rfl rfl rfl (by rw [hg_33]; rfl) ?_
                refine qp (b := decide ((p1_l.length : Int) ≤ i_5)) 38 rfl rfl rfl rfl (by rw [hg_33]; rfl) ?_
                refine qp (b := decide ((p1_l.length : Int) ≤ i_5)) 38 rfl rfl rfl rfl (by rw [hg_33]; rfl) ?_
                refine qp (b := decide ((p1_l.length : Int) ≤ i_5)) 38 rfl rfl rfl rfl (by rw [hg_33]; rfl) ?_
                refine qg (b := !decide (e_27 = e_29)) 33 rfl rfl rfl (by rw [hg_31]; rfl) ?_
                refine qv (v := (.bool false)) rfl (fun _ hC => r_pickF (congrArg Value.bool hg_33) rfl) ?_
                refine qv (v := (.bool false)) rfl (fun _ hC => r_pickF (congrArg Value.bool hg_31) rfl) ?_
                refine qnil ?_
                intro w_35 hC
                replace hC : Grow col_4 w_3 col_4 w_35 := .of_below hC.below
                replace h0 := h0.gr hC
                replace h1 := h1.gr hC
                replace hst := hst.grow hC
                exact ⟨col_4, false, hm, hst, h0, h1, rfl, rfl, rfl, rfl, rfl, rfl⟩
          · rw [if_neg hg_26] at hm
            replace hg_26 := Bool.eq_false_iff.2 hg_26
            refine qp (b := decide (i_5 < (p1_l.length : Int))) 22 rfl rfl rfl rfl (by rw [hg_26]; rfl) ?_
            refine qp (b := decide (i_5 < (p1_l.length : Int))) 22 rfl rfl rfl rfl (by rw [hg_26]; rfl) ?_
            refine qp (b := decide (i_5 < (p1_l.length : Int))) 22 rfl rfl rfl rfl (by rw [hg_26]; rfl) ?_
            refine qp (b := decide (i_5 < (p1_l.length : Int))) 22 rfl rfl rfl rfl (by rw [hg_26]; rfl) ?_
            refine qp (b := decide (i_5 < (p1_l.length : Int))) 22 rfl rfl rfl rfl (by rw [hg_26]; rfl) ?_
            refine qp (b := decide (i_5 < (p1_l.length : Int))) 22 rfl rfl rfl rfl (by rw [hg_26]; rfl) ?_
            refine qp (b := decide (i_5 < (p1_l.length : Int))) 22 rfl rfl rfl rfl (by rw [hg_26]; rfl) ?_
            refine qp (b := decide (i_5 < (p1_l.length : Int))) 22 rfl rfl rfl rfl (by rw [hg_26]; rfl) ?_
            refine qp (b := decide (i_5 < (p1_l.length : Int))) 22 rfl rfl rfl rfl (by rw [hg_26]; rfl) ?_
            refine qv (v := (.bool false)) rfl (fun _ hC => r_pickF (congrArg Value.bool hg_26) rfl) ?_
            refine qv (v := (.bool false)) rfl (fun _ hC => r_move rfl) ?_
            refine qg (b := false) 33 rfl rfl rfl rfl ?_
            refine qv (v := (.int .i64 i_5)) rfl (fun _ hC => r_move rfl) ?_
            refine qg (b := false) 33 rfl rfl rfl rfl ?_
            refine qv (v := (.slice a1 p1_l.length cap1)) rfl (fun _ hC => r_move rfl) ?_
            refine qg (b := false) 33 rfl rfl rfl rfl ?_
            refine qv (v := (.int .i64 (p1_l.length : Int))) rfl (fun _ hC => r_len Try.underlying22 rfl) ?_
            refine qg (b := false) 33 rfl rfl rfl rfl ?_
            refine qv (v := (.bool (decide ((p1_l.length : Int) ≤ i_5)))) rfl (fun _ hC => r_geq i_5 (p1_l.length : Int) rfl rfl) ?_
            refine qg (b := false) 33 rfl rfl rfl rfl ?_
            refine qv (v := (.bool (decide ((p1_l.length : Int) ≤ i_5)))) rfl (fun _ hC => r_move rfl) ?_
            by_cases hg_36 : (decide ((p1_l.length : Int) ≤ i_5)) = true
            · rw [if_pos hg_36] at hm
              refine qg (b := decide ((p1_l.length : Int) ≤ i_5)) 38 rfl rfl rfl (by rw [hg_36]; rfl) ?_
              refine qv (v := (.slice a0 ((p0_m.take (Int.toNat (IntKind.i64.wrap ((p1_l.length : Int) + 9)))).length) cap0)) rfl (fun _ hC => r_move rfl) ?_
              refine qg (b := decide ((p1_l.length : Int) ≤ i_5)) 38 rfl rfl rfl (by rw [hg_36]; rfl) ?_
              refine qv (v := (.int .i64 i_5)) rfl (fun _ hC => r_move rfl) ?_
              refine qg (b := decide ((p1_l.length : Int) ≤ i_5)) 38 rfl rfl rfl (by rw [hg_36]; rfl) ?_
              obtain ⟨e_37, hj_38, hm⟩ := bind_some hm
              refine qv (v := (sptr a0 (Int.toNat i_5 * 1))) rfl (fun _ hC => r_idx Try.underlying22 Try.sizeOf3 rfl rfl (at?_some hj_38).1 (at?_some hj_38).2.1 ((h0.take (Int.toNat (IntKind.i64.wrap ((p1_l.length : Int) + 9)))).addr hj_38)) ?_
              refine qg (b := decide ((p1_l.length : Int) ≤ i_5)) 38 rfl rfl rfl (by rw [hg_36]; rfl) ?_
              refine qv (v := (.int .i64 e_37)) rfl (fun _ hC => r_ld Try.isAgg3 rfl (((h0.take (Int.toNat (IntKind.i64.wrap ((p1_l.length : Int) + 9)))).gr (Grow.of_below (col := col_4) hC.below)).atInt hj_38)) ?_
              refine qg (b := decide ((p1_l.length : Int) ≤ i_5)) 38 rfl rfl rfl (by rw [hg_36]; rfl) ?_
              refine qv (v := (.int .i64 i_5)) rfl (fun _ hC => r_move rfl) ?_
              refine qg (b := decide ((p1_l.length : Int) ≤ i_5)) 38 rfl rfl rfl (by rw [hg_36]; rfl) ?_
              refine qv (v := (.slice a1 p1_l.length cap1)) rfl (fun _ hC => r_move rfl) ?_
              refine qg (b := decide ((p1_l.length : Int) ≤ i_5)) 38 rfl rfl rfl (by rw [hg_36]; rfl) ?_
              refine qv (v := (.int .i64 (p1_l.length : Int))) rfl (fun _ hC => r_len Try.underlying22 rfl) ?_
              refine qg (b := decide ((p1_l.length : Int) ≤ i_5)) 38 rfl rfl rfl (by rw [hg_36]; rfl) ?_
              refine qv (v := (.int .i64 (IntKind.i64.wrap (i_5 - (p1_l.length : Int))))) rfl (fun _ hC => r_sub i_5 (p1_l.length : Int) rfl rfl) ?_
              refine qg (b := decide ((p1_l.length : Int) ≤ i_5)) 38 rfl rfl rfl (by rw [hg_36]; rfl) ?_
              refine qv (v := (.int .i64 (IntKind.i64.wrap ((-70) - (IntKind.i64.wrap (i_5 - (p1_l.length : Int))))))) rfl (fun _ hC => r_sub (-70) (IntKind.i64.wrap (i_5 - (p1_l.length : Int))) rfl rfl) ?_
              refine qg (b := decide ((p1_l.length : Int) ≤ i_5)) 38 rfl rfl rfl (by rw [hg_36]; rfl) ?_
              refine qv (v := (.bool (!decide (e_37 = (IntKind.i64.wrap ((-70) - (IntKind.i64.wrap (i_5 - (p1_l.length : Int))))))))) rfl (fun _ hC => r_neq e_37 (IntKind.i64.wrap ((-70) - (IntKind.i64.wrap (i_5 - (p1_l.length : Int))))) rfl rfl) ?_
              refine qg (b := false) 33 rfl rfl rfl rfl ?_
              refine qv (v := (.bool (!decide (e_37 = (IntKind.i64.wrap ((-70) - (IntKind.i64.wrap (i_5 - (p1_l.length : Int))))))))) rfl (fun _ hC => r_pickT (congrArg Value.bool hg_36) rfl) ?_
              refine qv (v := (.bool (!decide (e_37 = (IntKind.i64.wrap ((-70) - (IntKind.i64.wrap (i_5 - (p1_l.length : Int))))))))) rfl (fun _ hC => r_pickF rfl rfl) ?_
              refine qnil ?_
              intro w_39 hC
              replace hC : Grow col_4 w_3 col_4 w_39 := .of_below hC.below
              replace h0 := h0.gr hC
              replace h1 := h1.gr hC
              replace hst := hst.grow hC
              exact ⟨col_4, (!decide (e_37 = (IntKind.i64.wrap ((-70) - (IntKind.i64.wrap (i_5 - (p1_l.length : Int))))))), hm, hst, h0, h1, rfl, rfl, rfl, rfl, rfl, rfl⟩
            · rw [if_neg hg_36] at hm
              replace hg_36 := Bool.eq_false_iff.2 hg_36
              refine qp (b := decide ((p1_l.length : Int) ≤ i_5)) 38 rfl rfl rfl rfl (by rw [hg_36]; rfl) ?_
              refine qp (b := decide ((p1_l.length : Int) ≤ i_5)) 38 rfl rfl rfl rfl (by rw [hg_36]; rfl) ?_
              refine qp (b := decide ((p1_l.length : Int) ≤ i_5)) 38 rfl rfl rfl rfl (by rw [hg_36]; rfl) ?_
              refine qp (b := decide ((p1_l.length : Int) ≤ i_5)) 38 rfl rfl rfl rfl (by rw [hg_36]; rfl) ?_
              refine qp (b := decide ((p1_l.length : Int) ≤ i_5)) 38 rfl rfl rfl rfl (by rw [hg_36]; rfl) ?_
              refine qp (b := decide ((p1_l.length : Int) ≤ i_5)) 38 rfl rfl rfl rfl (by rw [hg_36]; rfl) ?_
              refine qp (b := decide ((p1_l.length : Int) ≤ i_5)) 38 rfl rfl rfl rfl (by rw [hg_36]; rfl) ?_
              refine qp (b := decide ((p1_l.length : Int) ≤ i_5)) 38 rfl rfl rfl rfl (by rw [hg_36]; rfl) ?_
              refine qp (b := decide ((p1_l.length : Int) ≤ i_5)) 38 rfl rfl rfl rfl (by rw [hg_36]; rfl) ?_
              refine qp (b := decide ((p1_l.length : Int) ≤ i_5)) 38 rfl rfl rfl rfl (by rw [hg_36]; rfl) ?_
              refine qg (b := false) 33 rfl rfl rfl rfl ?_
              refine qv (v := (.bool false)) rfl (fun _ hC => r_pickF (congrArg Value.bool hg_36) rfl) ?_
              refine qv (v := (.bool false)) rfl (fun _ hC => r_pickF rfl rfl) ?_
              refine qnil ?_
              intro w_40 hC
              replace hC : Grow col_4 w_3 col_4 w_40 := .of_below hC.below
              replace h0 := h0.gr hC
              replace h1 := h1.gr hC
              replace hst := hst.grow hC
              exact ⟨col_4, false, hm, hst, h0, h1, rfl, rfl, rfl, rfl, rfl, rfl⟩
    · rw [if_neg (by rw [hb]; decide)] at hm
      clear hb
      refine wexit (inB_hit ?_)
      refine wseq ?_
      refine wregion ?_
      refine lv (v := (.slice a0 ((p0_m.take n0).length) cap0)) rfl rfl (r_move rfl) ?_
      refine lv (v := (.int .i64 ((p0_m.take n0).length : Int))) rfl rfl (r_len Try.underlying22 rfl) ?_
      refine lv (v := (.slice a1 p1_l.length cap1)) rfl rfl (r_move rfl) ?_
      refine lv (v := (.int .i64 (p1_l.length : Int))) rfl rfl (r_len Try.underlying22 rfl) ?_
      refine lv (v := (.bool (decide (((p0_m.take n0).length : Int) = (p1_l.length : Int))))) rfl rfl (r_eql ((p0_m.take n0).length : Int) (p1_l.length : Int) rfl rfl) ?_
      refine lv (v := (.bool (decide (((p0_m.take n0).length : Int) = (p1_l.length : Int))))) rfl rfl (r_assign rfl) ?_
      refine lnil ?_
      refine wret ?_
      cases hm
      exact ⟨rfl, rfl, hst.below⟩




def m_credencelaw18_OrderCheck_J1 (v_42 : Bool) : Option Bool :=
  some v_42

def m_credencelaw18_OrderCheck (N : Nat) (p0_list : (List Int)) (p1_points : (List Int)) : Option Bool :=
  (w_credencelaw18_awake).bind fun r_1 => (m_credencelaw18_ints N p0_list).bind fun r_5 => (m_credencelaw18_ints N p1_points).bind fun r_13 => if r_1 = true then ((m_order_Check (r_5.2.take r_5.1) (r_13.2.take r_13.1)).bind fun r_44 => (m_credenceref18_Check N p0_list p1_points).bind fun r_48 => if (decide (r_44 = r_48)) = true then ((m_credencelaw18_kept N r_5.1 r_5.2 p0_list).bind fun r_53 => if r_53 = true then ((m_credencelaw18_kept N r_13.1 r_13.2 p1_points).bind fun r_58 => m_credencelaw18_OrderCheck_J1 r_58) else (m_credencelaw18_OrderCheck_J1 false)) else (m_credencelaw18_OrderCheck_J1 false)) else (m_credencelaw18_OrderCheck_J1 false)

set_option maxRecDepth 100000 in
set_option maxHeartbeats 2000000 in
theorem c_credencelaw18_OrderCheck (N : Nat) (col : Col) (w0 : World) (a0 : Option Addr) (cap0 : Nat) (p0_list : (List Int)) (a1 : Option Addr) (cap1 : Nat) (p1_points : (List Int)) (h0 : Sl (Rep.int .i64) col w0 a0 cap0 p0_list) (h1 : Sl (Rep.int .i64) col w0 a1 cap1 p1_points) (r : Bool) (hm : m_credencelaw18_OrderCheck N p0_list p1_points = some r) :
    Calls Try.prog 10 #[(.slice a0 p0_list.length cap0), (.slice a1 p1_points.length cap1)] w0 (fun e w' => e = .returned ((.bool r)) ∧ Below w0.heap.size w0 w') := by
  refine calls_of1 4 (m := 33) (args := [(.slice a0 p0_list.length cap0), (.slice a1 p1_points.length cap1)]) Try.func10 rfl rfl rfl rfl rfl ?_
  rw [m_credencelaw18_OrderCheck.eq_1] at hm
  have hst := St.start col w0
  replace h0 := h0.keep (Stay.start col w0)
  replace h1 := h1.keep (Stay.start col w0)
  refine wseq ?_
  refine wregion ?_
  refine lv (v := (.bool false)) rfl rfl (r_assign rfl) ?_
  refine lnil ?_
  refine wseq ?_
  refine wregion ?_
  obtain ⟨r_1, hr_2, hm⟩ := bind_some hm
  refine lc rfl rfl (r_call0 Try.call29 ) (k_credencelaw18_awake (col0 col) _ r_1 hr_2) ?_
  rintro _ w_3 ⟨rfl, hg_4⟩
  refine ⟨_, rfl, ?_⟩
  replace hg_4 : Grow (col0 col) w0 (col0 col) w_3 := .of_below hg_4
  replace h0 := h0.gr hg_4
  replace h1 := h1.gr hg_4
  replace hst := hst.grow hg_4
  refine lv (v := (.bool r_1)) rfl rfl (r_assign rfl) ?_
  refine lnil ?_
  refine wseq ?_
  refine wregion ?_
  refine lv (v := (.slice a0 p0_list.length cap0)) rfl rfl (r_move rfl) ?_
  obtain ⟨r_5, hr_6, hm⟩ := bind_some hm
  refine lc rfl rfl (r_call1 Try.call31 rfl) (c_credencelaw18_ints N 1 (col0 col) _ a0 cap0 p0_list h0 r_5 hr_6) ?_
  rintro _ w_10 ⟨col_12, ra_7, rc_8, rfl, hg_11, rh_9⟩
  refine ⟨_, rfl, ?_⟩
  replace h0 := h0.gr hg_11
  replace h1 := h1.gr hg_11
  replace hst := hst.grow hg_11
  refine lv (v := (.slice ra_7 ((r_5.2.take r_5.1).length) rc_8)) rfl rfl (r_assign rfl) ?_
  refine lnil ?_
  refine wseq ?_
  refine wregion ?_
  refine lv (v := (.slice a1 p1_points.length cap1)) rfl rfl (r_move rfl) ?_
  obtain ⟨r_13, hr_14, hm⟩ := bind_some hm
  refine lc rfl rfl (r_call1 Try.call31 rfl) (c_credencelaw18_ints N 2 col_12 _ a1 cap1 p1_points h1 r_13 hr_14) ?_
  rintro _ w_18 ⟨col_20, ra_15, rc_16, rfl, hg_19, rh_17⟩
  refine ⟨_, rfl, ?_⟩
  replace h0 := h0.gr hg_19
  replace h1 := h1.gr hg_19
  replace rh_9 := rh_9.gr hg_19
  replace hst := hst.grow hg_19
  refine lv (v := (.slice ra_15 ((r_13.2.take r_13.1).length) rc_16)) rfl rfl (r_assign rfl) ?_
  refine lnil ?_
  refine wseq ?_
  refine Wp.cut (fun f w_40 => ∃ (col_41 : Col) (v_42 : Bool), m_credencelaw18_OrderCheck_J1 v_42 = some r ∧ St w0 (col0 col) col_41 w_40 ∧ f 4 = (.bool v_42) ∧ f 1000000 = (enc [])) ?_ ?_
  · intro f w_40 hJ
    obtain ⟨col_41, v_42, hm, hst, hs4, hs1000000⟩ := hJ
    rw [m_credencelaw18_OrderCheck_J1.eq_1] at hm
    refine .ld (d := 4) (v := (.bool v_42)) hs4 ?_
    refine .ld (d := 1000000) (v := (enc [])) hs1000000 ?_
    clear hs4 hs1000000
    refine wret ?_
    cases hm
    exact ⟨rfl, rfl, hst.below⟩
  · refine wregion ?_
    refine lv (v := (.bool r_1)) rfl rfl (r_move rfl) ?_
    refine lv (v := (.bool r_1)) rfl rfl (r_move rfl) ?_
    by_cases hg_43 : r_1 = true
    · rw [if_pos hg_43] at hm
      refine lg (b := r_1) 14 rfl rfl rfl (by rw [hg_43]; rfl) ?_
      refine lv (v := (.slice ra_7 ((r_5.2.take r_5.1).length) rc_8)) rfl rfl (r_move rfl) ?_
      refine lg (b := r_1) 14 rfl rfl rfl (by rw [hg_43]; rfl) ?_
      refine lv (v := (.slice ra_15 ((r_13.2.take r_13.1).length) rc_16)) rfl rfl (r_move rfl) ?_
      refine lg (b := r_1) 14 rfl rfl rfl (by rw [hg_43]; rfl) ?_
      obtain ⟨r_44, hr_45, hm⟩ := bind_some hm
      refine lc rfl rfl (r_call2 Try.call45 rfl rfl) (c_order_Check (frC 2 (frC 1 col_20)) _ ra_7 rc_8 (r_5.2.take r_5.1) ra_15 rc_16 (r_13.2.take r_13.1) (((rh_9.take r_5.1).toSlF (Froz.int .i64)).froz 2) (((rh_17.take r_13.1).froz 1 (by decide)).toSlF (Froz.int .i64)) r_44 hr_45) ?_
      rintro _ w_46 ⟨rfl, hg_47⟩
      refine ⟨_, rfl, ?_⟩
      replace hg_47 : Grow col_20 w_18 col_20 w_46 := .of_below hg_47
      replace h0 := h0.gr hg_47
      replace h1 := h1.gr hg_47
      replace rh_9 := rh_9.gr hg_47
      replace rh_17 := rh_17.gr hg_47
      replace hst := hst.grow hg_47
      refine lg (b := r_1) 14 rfl rfl rfl (by rw [hg_43]; rfl) ?_
      refine lv (v := (.slice a0 p0_list.length cap0)) rfl rfl (r_move rfl) ?_
      refine lg (b := r_1) 14 rfl rfl rfl (by rw [hg_43]; rfl) ?_
      refine lv (v := (.slice a1 p1_points.length cap1)) rfl rfl (r_move rfl) ?_
      refine lg (b := r_1) 14 rfl rfl rfl (by rw [hg_43]; rfl) ?_
      obtain ⟨r_48, hr_49, hm⟩ := bind_some hm
      refine lc rfl rfl (r_call2 Try.call46 rfl rfl) (c_credenceref18_Check N col_20 _ a0 cap0 p0_list a1 cap1 p1_points h0 h1 r_48 hr_49) ?_
      rintro _ w_50 ⟨rfl, hg_51⟩
      refine ⟨_, rfl, ?_⟩
      replace hg_51 : Grow col_20 w_46 col_20 w_50 := .of_below hg_51
      replace h0 := h0.gr hg_51
      replace h1 := h1.gr hg_51
      replace rh_9 := rh_9.gr hg_51
      replace rh_17 := rh_17.gr hg_51
      replace hst := hst.grow hg_51
      refine lg (b := r_1) 14 rfl rfl rfl (by rw [hg_43]; rfl) ?_
      refine lv (v := (.bool (decide (r_44 = r_48)))) rfl rfl (r_eql r_44 r_48 rfl rfl) ?_
      refine lv (v := (.bool (decide (r_44 = r_48)))) rfl rfl (r_pickT (congrArg Value.bool hg_43) rfl) ?_
      refine lv (v := (.bool (decide (r_44 = r_48)))) rfl rfl (r_move rfl) ?_
      by_cases hg_52 : (decide (r_44 = r_48)) = true
      · rw [if_pos hg_52] at hm
        refine lg (b := decide (r_44 = r_48)) 23 rfl rfl rfl (by rw [hg_52]; rfl) ?_
        refine lv (v := (.slice ra_7 ((r_5.2.take r_5.1).length) rc_8)) rfl rfl (r_move rfl) ?_
        refine lg (b := decide (r_44 = r_48)) 23 rfl rfl rfl (by rw [hg_52]; rfl) ?_
        refine lv (v := (.slice a0 p0_list.length cap0)) rfl rfl (r_move rfl) ?_
        refine lg (b := decide (r_44 = r_48)) 23 rfl rfl rfl (by rw [hg_52]; rfl) ?_
        obtain ⟨r_53, hr_54, hm⟩ := bind_some hm
        refine lc rfl rfl (r_call2 Try.call38 rfl rfl) (c_credencelaw18_kept N (frC 1 col_20) _ ra_7 rc_8 r_5.1 r_5.2 a0 cap0 p0_list (rh_9.toSlF (Froz.int .i64)) (h0.froz 1) r_53 hr_54) ?_
        rintro _ w_55 ⟨rfl, hg_56⟩
        refine ⟨_, rfl, ?_⟩
        replace hg_56 : Grow col_20 w_50 col_20 w_55 := .of_below hg_56
        replace h1 := h1.gr hg_56
        replace rh_17 := rh_17.gr hg_56
        replace rh_9 := rh_9.gr hg_56
        replace h0 := h0.gr hg_56
        replace hst := hst.grow hg_56
        refine lv (v := (.bool r_53)) rfl rfl (r_pickT (congrArg Value.bool hg_52) rfl) ?_
        refine lv (v := (.bool r_53)) rfl rfl (r_move rfl) ?_
        by_cases hg_57 : r_53 = true
        · rw [if_pos hg_57] at hm
          refine lg (b := r_53) 28 rfl rfl rfl (by rw [hg_57]; rfl) ?_
          refine lv (v := (.slice ra_15 ((r_13.2.take r_13.1).length) rc_16)) rfl rfl (r_move rfl) ?_
          refine lg (b := r_53) 28 rfl rfl rfl (by rw [hg_57]; rfl) ?_
          refine lv (v := (.slice a1 p1_points.length cap1)) rfl rfl (r_move rfl) ?_
          refine lg (b := r_53) 28 rfl rfl rfl (by rw [hg_57]; rfl) ?_
          obtain ⟨r_58, hr_59, hm⟩ := bind_some hm
          refine lc rfl rfl (r_call2 Try.call38 rfl rfl) (c_credencelaw18_kept N (frC 2 col_20) _ ra_15 rc_16 r_13.1 r_13.2 a1 cap1 p1_points (rh_17.toSlF (Froz.int .i64)) (h1.froz 2) r_58 hr_59) ?_
          rintro _ w_60 ⟨rfl, hg_61⟩
          refine ⟨_, rfl, ?_⟩
          replace hg_61 : Grow col_20 w_55 col_20 w_60 := .of_below hg_61
          replace rh_17 := rh_17.gr hg_61
          replace h1 := h1.gr hg_61
          replace hst := hst.grow hg_61
          refine lv (v := (.bool r_58)) rfl rfl (r_pickT (congrArg Value.bool hg_57) rfl) ?_
          refine lv (v := (.bool r_58)) rfl rfl (r_assign rfl) ?_
          refine lnil ?_
          exact ⟨col_20, r_58, hm, hst, rfl, rfl⟩
        · rw [if_neg hg_57] at hm
          replace hg_57 := Bool.eq_false_iff.2 hg_57
          refine lp (b := r_53) 28 rfl rfl rfl rfl (by rw [hg_57]; rfl) ?_
          refine lp (b := r_53) 28 rfl rfl rfl rfl (by rw [hg_57]; rfl) ?_
          refine lp (b := r_53) 28 rfl rfl rfl rfl (by rw [hg_57]; rfl) ?_
          refine lv (v := (.bool false)) rfl rfl (r_pickF (congrArg Value.bool hg_57) rfl) ?_
          refine lv (v := (.bool false)) rfl rfl (r_assign rfl) ?_
          refine lnil ?_
          exact ⟨col_20, false, hm, hst, rfl, rfl⟩
      · rw [if_neg hg_52] at hm
        replace hg_52 := Bool.eq_false_iff.2 hg_52
        refine lp (b := decide (r_44 = r_48)) 23 rfl rfl rfl rfl (by rw [hg_52]; rfl) ?_
        refine lp (b := decide (r_44 = r_48)) 23 rfl rfl rfl rfl (by rw [hg_52]; rfl) ?_
        refine lp (b := decide (r_44 = r_48)) 23 rfl rfl rfl rfl (by rw [hg_52]; rfl) ?_
        refine lv (v := (.bool false)) rfl rfl (r_pickF (congrArg Value.bool hg_52) rfl) ?_
        refine lv (v := (.bool false)) rfl rfl (r_move rfl) ?_
        refine lp (b := false) 28 rfl rfl rfl rfl rfl ?_
        refine lp (b := false) 28 rfl rfl rfl rfl rfl ?_
        refine lp (b := false) 28 rfl rfl rfl rfl rfl ?_
        refine lv (v := (.bool false)) rfl rfl (r_pickF rfl rfl) ?_
        refine lv (v := (.bool false)) rfl rfl (r_assign rfl) ?_
        refine lnil ?_
        exact ⟨col_20, false, hm, hst, rfl, rfl⟩
    · rw [if_neg hg_43] at hm
      replace hg_43 := Bool.eq_false_iff.2 hg_43
      refine lp (b := r_1) 14 rfl rfl rfl rfl (by rw [hg_43]; rfl) ?_
      refine lp (b := r_1) 14 rfl rfl rfl rfl (by rw [hg_43]; rfl) ?_
      refine lp (b := r_1) 14 rfl rfl rfl rfl (by rw [hg_43]; rfl) ?_
      refine lp (b := r_1) 14 rfl rfl rfl rfl (by rw [hg_43]; rfl) ?_
      refine lp (b := r_1) 14 rfl rfl rfl rfl (by rw [hg_43]; rfl) ?_
      refine lp (b := r_1) 14 rfl rfl rfl rfl (by rw [hg_43]; rfl) ?_
      refine lp (b := r_1) 14 rfl rfl rfl rfl (by rw [hg_43]; rfl) ?_
      refine lv (v := (.bool false)) rfl rfl (r_pickF (congrArg Value.bool hg_43) rfl) ?_
      refine lv (v := (.bool false)) rfl rfl (r_move rfl) ?_
      refine lp (b := false) 23 rfl rfl rfl rfl rfl ?_
      refine lp (b := false) 23 rfl rfl rfl rfl rfl ?_
      refine lp (b := false) 23 rfl rfl rfl rfl rfl ?_
      refine lv (v := (.bool false)) rfl rfl (r_pickF rfl rfl) ?_
      refine lv (v := (.bool false)) rfl rfl (r_move rfl) ?_
      refine lp (b := false) 28 rfl rfl rfl rfl rfl ?_
      refine lp (b := false) 28 rfl rfl rfl rfl rfl ?_
      refine lp (b := false) 28 rfl rfl rfl rfl rfl ?_
      refine lv (v := (.bool false)) rfl rfl (r_pickF rfl rfl) ?_
      refine lv (v := (.bool false)) rfl rfl (r_assign rfl) ?_
      refine lnil ?_
      exact ⟨col_20, false, hm, hst, rfl, rfl⟩


variable {N : Nat}

theorem values_eq (l : List Int) : m_slices_Values_int_int l = some l := by
  unfold m_slices_Values_int_int m_slices_Values_int_int_1
  induction l with
  | nil => rfl
  | cons x l ih => rw [m_slices_Values_int_int_1_L1.eq_2, ih]; rfl
theorem appendSeq_L1 : ∀ (l s : List Int), s.length + l.length ≤ 1100000 → m_slices_AppendSeq_int_int_v0n_L1 l s = some (s ++ l)
  | [], s, _ => by rw [m_slices_AppendSeq_int_int_v0n_L1.eq_1, List.append_nil]
  | y :: l, s, h => by
    simp only [List.length_cons] at h
    rw [m_slices_AppendSeq_int_int_v0n_L1.eq_2, chk_pos (by simp only [List.length_singleton, maxLen]; omega), appendSeq_L1 l _ (by simp; omega), List.append_assoc]; rfl
theorem sorted_eq' (l : List Int) (h : l.length ≤ 1100000) : m_slices_Sorted_int l = some (isort l) := by
  unfold m_slices_Sorted_int m_slices_Collect_int m_slices_AppendSeq_int_int_v0n
  rw [appendSeq_L1 l [] (by simpa using h)]
  simp only [List.nil_append, Option.bind_some]
  unfold lib_sort
  rw [chk_pos (by omega)]; rfl
theorem isort_len (l : List Int) : (isort l).length = l.length := (isort_perm l).length_eq
theorem isort_congr {l m : List Int} (h : l.Perm m) : isort l = isort m := isort_eq ((isort_perm m).trans h.symm) (isort_rises m)
theorem isort_inj {l m : List Int} : isort l = isort m ↔ l.Perm m :=
  ⟨fun h => (isort_perm l).symm.trans (h ▸ isort_perm m), isort_congr⟩

theorem equal_L1 (m : List Int) : ∀ (l : List Int) (k : Nat), k + l.length = m.length → m_slices_Equal_int_int_L1 m l k = some (decide (l = m.drop k))
  | [], k, h => by
    rw [m_slices_Equal_int_int_L1.eq_1, List.drop_eq_nil_of_le (by simp at h; omega)]; rfl
  | x :: l, k, h => by
    simp only [List.length_cons] at h
    rw [m_slices_Equal_int_int_L1.eq_2, at?_lt (show k < m.length by omega)]
    simp only [Option.bind_some]
    rw [List.drop_eq_getElem_cons (show k < m.length by omega)]
    by_cases e : x = m[k]
    · rw [if_neg (by simp [e]), equal_L1 m l (k + 1) (by omega), ← e]
      exact congrArg some (decide_eq_decide.2 ⟨fun h => by rw [h], fun h => (List.cons.inj h).2⟩)
    · rw [if_pos (by simp [e])]
      exact congrArg some (decide_eq_false (fun h => e (List.cons.inj h).1)).symm
theorem equal_eq (l m : List Int) : m_slices_Equal_int_int l m = some (decide (l = m)) := by
  unfold m_slices_Equal_int_int
  by_cases h : l.length = m.length
  · rw [if_neg (by simp [h]), equal_L1 m l 0 (by omega), List.drop_zero]
  · rw [if_pos (by simp; omega)]
    congr 1
    symm; rw [decide_eq_false_iff_not]; intro e; exact h (by rw [e])

/-- Nothing falls away just if no two neighbours are one. -/
theorem compact_len_iff {l : List Int} (hs : l.Pairwise (· ≤ ·)) : (Go.Lib.compact l).length = l.length ↔ l.Nodup := by
  have key : (Go.Lib.compact l).length = l.length ↔ ∀ j, j < l.length → Go.Lib.keeps l.toArray j = true := by
    constructor
    · intro h j hj
      unfold Go.Lib.compact Go.Lib.compactUpTo at h
      rw [List.length_map] at h
      have h2 : ((List.range l.length).filter (Go.Lib.keeps l.toArray)).length = (List.range l.length).length := by rw [h]; simp
      exact (List.filter_eq_self.1 (List.filter_sublist.eq_of_length h2)) j (List.mem_range.2 hj)
    · intro h; rw [Go.Lib.compact_all l h]
  rw [key]
  have hk : ∀ j, j < l.length → (Go.Lib.keeps l.toArray j = true ↔ (j = 0 ∨ l[j]? ≠ l[j - 1]?)) := fun j hj => by
    unfold Go.Lib.keeps
    rw [decide_eq_true_iff]
    have h1 : j - 1 < l.length := by omega
    rw [getElem!_pos l.toArray j (by simpa using hj), getElem!_pos l.toArray (j - 1) (by simpa using h1), List.getElem?_eq_getElem hj, List.getElem?_eq_getElem h1]
    simp
  constructor
  · intro h
    rw [List.nodup_iff_pairwise_ne]
    rw [List.pairwise_iff_getElem] at hs ⊢
    intro i j hi hj hij e
    have hn := (hk j hj).1 (h j hj)
    rcases hn with hn | hn
    · omega
    · apply hn
      have h1 : j - 1 < l.length := by omega
      rw [List.getElem?_eq_getElem hj, List.getElem?_eq_getElem h1]
      congr 1
      have a1 := hs (j - 1) j h1 hj (by omega)
      by_cases h2 : i = j - 1
      · subst h2; exact e.symm
      · have a2 := hs i (j - 1) hi h1 (by omega)
        omega
  · intro h j hj
    rw [hk j hj]
    by_cases h0 : j = 0
    · exact .inl h0
    · refine .inr fun e => ?_
      have h1 : j - 1 < l.length := by omega
      rw [List.getElem?_eq_getElem hj, List.getElem?_eq_getElem h1] at e
      have := (List.getElem_inj h).1 (Option.some.inj e)
      omega

/-- What our Check says. -/
theorem check_eq (l m : List Int) (hl : l.length < 1048576) (hm : m.length < 1048576) : m_order_Check l m = some (if l.Perm m ∧ m.Nodup then 0 else 51) := by
  unfold m_order_Check
  rw [values_eq, values_eq]
  simp only [Option.bind_some]
  rw [sorted_eq' l (by omega), sorted_eq' m (by omega)]
  simp only [Option.bind_some]
  rw [equal_eq]
  simp only [Option.bind_some]
  by_cases h : isort l = isort m
  · have hp := isort_inj.1 h
    rw [if_neg (by simp [h])]
    unfold lib_compact m_order_Check_J1
    rw [chk_pos (by rw [isort_len]; omega)]
    simp only [Option.bind_some]
    have hn : (Go.Lib.compact (isort l)).length = (isort m).length ↔ m.Nodup := by
      rw [← h, compact_len_iff (isort_rises l), (isort_perm l).nodup_iff, hp.nodup_iff]
    by_cases hd : m.Nodup
    · rw [if_neg (by simp; have := hn.2 hd; omega), if_pos ⟨hp, hd⟩]
    · rw [if_pos (by
        simp only [Bool.not_eq_true', decide_eq_false_iff_not]
        intro e; exact hd (hn.1 (by omega))), if_neg (fun e => hd e.2)]
  · rw [if_pos (by simp [h])]
    unfold m_order_Check_J1
    rw [if_pos rfl, if_neg (fun e => h (isort_congr e.1))]

theorem times_L1 (l : List Int) (x : Int) (hl : l.length < 1048576) : ∀ (f i n : Nat), i ≤ l.length → l.length - i < f → n ≤ i →
    m_credenceref18_times_L1 N l x f (n : Int) (i : Int) = some (((n + (l.drop i).count x : Nat)) : Int) := by
  intro f
  induction f with
  | zero => intro i n _ h; omega
  | succ f ih =>
    intro i n hi hf hn
    rw [m_credenceref18_times_L1.eq_2]
    by_cases h : i < l.length
    · rw [if_pos (decide_eq_true (by omega)), at?_lt h]
      simp only [Option.bind_some, m_credenceref18_times_J1]
      rw [List.drop_eq_getElem_cons h, List.count_cons]
      by_cases e : l[i] = x
      · rw [if_pos (decide_eq_true e), wS (by omega), wS (by omega), ih (i + 1) (n + 1) (by omega) (by omega) (by omega)]
        congr 2
        simp [e]; omega
      · rw [if_neg (by simp [e]), wS (by omega), ih (i + 1) n (by omega) (by omega) (by omega)]
        congr 2
        simp [e]
    · rw [if_neg (by simp; omega), List.drop_eq_nil_of_le (by omega)]
      simp
theorem times_eq (l : List Int) (x : Int) (hl : l.length < 1048576) (hN : l.length < N) : m_credenceref18_times N l x = some ((l.count x : Nat) : Int) := by
  have := times_L1 (N := N) l x hl N 0 0 (by omega) (by omega) (Nat.le_refl _)
  simpa [m_credenceref18_times] using this

theorem ifc {a b : Prop} [Decidable a] [Decidable b] {x y : Int} (h : a ↔ b) : (if a then x else y) = if b then x else y := by
  by_cases ha : a
  · rw [if_pos ha, if_pos (h.1 ha)]
  · rw [if_neg ha, if_neg (fun e => ha (h.2 e))]
theorem refCheck_L1 (l m : List Int) (hl : l.length < 1048576) (hm : m.length < 1048576) (hN : 1048576 < N) : ∀ (f i : Nat), i ≤ m.length → m.length - i < f →
    m_credenceref18_Check_L1 N l m f (i : Int) = some (if ∀ x ∈ m.drop i, l.count x = 1 ∧ m.count x = 1 then 0 else 51) := by
  intro f
  induction f with
  | zero => intro i _ h; omega
  | succ f ih =>
    intro i hi hf
    rw [m_credenceref18_Check_L1.eq_2]
    by_cases h : i < m.length
    · rw [if_pos (decide_eq_true (by omega)), at?_lt h]
      simp only [Option.bind_some]
      rw [times_eq l _ hl (by omega)]
      simp only [Option.bind_some]
      rw [List.drop_eq_getElem_cons h]
      unfold m_credenceref18_Check_J1
      by_cases c1 : l.count m[i] = 1
      · rw [if_neg (by simp [c1]), times_eq m _ hm (by omega)]
        simp only [Option.bind_some]
        by_cases c2 : m.count m[i] = 1
        · rw [if_neg (by simp [c2]), wS (by omega), ih (i + 1) (by omega) (by omega)]
          congr 1
          apply ifc
          constructor
          · intro hh x hx
            rcases List.mem_cons.1 hx with rfl | hx
            · exact ⟨c1, c2⟩
            · exact hh x hx
          · exact fun hh x hx => hh x (List.mem_cons_of_mem _ hx)
        · rw [if_pos (by simp; omega), if_neg (fun hh => c2 (hh _ List.mem_cons_self).2)]
      · rw [if_pos (by simp; omega), if_pos rfl, if_neg (fun hh => c1 (hh _ List.mem_cons_self).1)]
    · rw [if_neg (by simp; omega), List.drop_eq_nil_of_le (by omega)]
      simp
theorem refCheck_eq (l m : List Int) (hl : l.length < 1048576) (hm : m.length < 1048576) (hN : 1048576 < N) : m_credenceref18_Check N l m = some (if l.Perm m ∧ m.Nodup then 0 else 51) := by
  unfold m_credenceref18_Check
  by_cases h : l.length = m.length
  · rw [if_neg (by simp [h])]
    have := refCheck_L1 (N := N) l m hl hm hN N 0 (by omega) (by omega)
    rw [List.drop_zero] at this
    refine this.trans (congrArg some (ifc ?_))
    constructor
    · intro hh
      have hn : m.Nodup := List.nodup_iff_count.2 fun x => by
        by_cases hx : x ∈ m
        · have := (hh x hx).2; omega
        · rw [List.count_eq_zero_of_not_mem hx]; omega
      refine ⟨?_, hn⟩
      have hsub : ∀ x ∈ m, x ∈ l := fun x hx => List.count_pos_iff.1 (by have := (hh x hx).1; omega)
      refine List.perm_iff_count.2 fun a => ?_
      by_cases ha : a ∈ m
      · have := hh a ha; omega
      · rw [List.count_eq_zero_of_not_mem ha, List.count_eq_zero_of_not_mem fun hl2 => ?_]
        have := nodup_le (l := a :: m) (r := l) (List.nodup_cons.2 ⟨ha, hn⟩) fun x hx => by
          rcases List.mem_cons.1 hx with rfl | hx
          · exact hl2
          · exact hsub x hx
        simp only [List.length_cons] at this
        omega
    · rintro ⟨hp, hn⟩ x hx
      rw [hp.count_eq]
      have h1 := List.nodup_iff_count.1 hn x
      have h2 := List.count_pos_iff.2 hx
      omega
  · rw [if_pos (by simp; omega), if_neg (fun e => h e.1.length_eq)]

/-- A list with marked room behind. -/
def marks9 (j : Nat) : List Int := (List.range j).map fun k : Nat => -70 - (k : Int)
theorem ints_L1 (l : List Int) (hl : l.length < 1048576) : ∀ (f j : Nat), j ≤ 9 → 9 - j < f → m_credencelaw18_ints_L1 N l f (l ++ marks9 j) (j : Int) = some (l.length, l ++ marks9 9) := by
  intro f
  induction f with
  | zero => intro j _ h; omega
  | succ f ih =>
    intro j hj hf
    have hml : ∀ j, (marks9 j).length = j := fun j => by simp [marks9]
    rw [m_credencelaw18_ints_L1.eq_2]
    by_cases h : j < 9
    · have e : IntKind.i64.wrap ((-70) - (j : Int)) = -70 - (j : Int) := w64 (by omega)
      rw [if_pos (decide_eq_true (by omega)), chk_pos (by simp only [List.length_append, hml, List.length_singleton, maxLen]; omega), wS (by omega), e]
      rw [show l ++ marks9 j ++ [-70 - (j : Int)] = l ++ marks9 (j + 1) by simp [marks9, List.range_succ]]
      exact ih (j + 1) (by omega) (by omega)
    · obtain rfl : j = 9 := by omega
      rw [if_neg (by simp), chk_pos (by simp only [List.length_append, hml]; omega)]
      simp
theorem ints_eq (l : List Int) (hl : l.length < 1048576) (hN : 20 < N) : m_credencelaw18_ints N l = some (l.length, l ++ marks9 9) := by
  unfold m_credencelaw18_ints
  rw [chk_pos (by simp only [List.length_nil, maxLen]; omega), List.nil_append]
  have := ints_L1 (N := N) l hl N 0 (by omega) (by omega)
  simpa [marks9] using this
theorem kept_L1 (l : List Int) (hl : l.length < 1048576) : ∀ (f i : Nat), i ≤ l.length + 9 → l.length + 9 - i < f →
    m_credencelaw18_kept_L1 N l.length (l ++ marks9 9) l f (i : Int) = some true := by
  intro f
  have hml : (marks9 9).length = 9 := rfl
  have e9 : Int.toNat (IntKind.i64.wrap ((l.length : Int) + 9)) = l.length + 9 := by rw [w64 (by omega)]; omega
  have et : (l ++ marks9 9).take (l.length + 9) = l ++ marks9 9 := List.take_of_length_le (by rw [List.length_append, hml]; omega)
  induction f with
  | zero => intro i _ h; omega
  | succ f ih =>
    intro i hi hf
    rw [m_credencelaw18_kept_L1.eq_2, e9, et]
    have hlen : (l ++ marks9 9).length = l.length + 9 := by rw [List.length_append, hml]
    by_cases h : i < l.length + 9
    · rw [if_pos (decide_eq_true (by rw [hlen]; omega))]
      by_cases h1 : i < l.length
      · rw [if_pos (decide_eq_true (by omega)), at?_lt (show i < (l ++ marks9 9).length by omega), at?_lt h1]
        simp only [Option.bind_some]
        rw [List.getElem_append_left h1, if_neg (by simp), if_neg (by simp; omega)]
        simp only [m_credencelaw18_kept_J2, m_credencelaw18_kept_J1]
        rw [if_neg (by decide), wS (by omega)]
        exact ih (i + 1) (by omega) (by omega)
      · rw [if_neg (by simp; omega), if_pos (decide_eq_true (by omega)), at?_lt (show i < (l ++ marks9 9).length by omega)]
        simp only [Option.bind_some]
        rw [List.getElem_append_right (by omega)]
        have e : (marks9 9)[i - l.length]'(by rw [hml]; omega) = IntKind.i64.wrap ((-70) - IntKind.i64.wrap ((i : Int) - (l.length : Int))) := by
          rw [w64 (x := (i : Int) - (l.length : Int)) (by omega), w64 (by omega)]
          simp only [marks9, List.getElem_map, List.getElem_range]
          omega
        rw [e]
        simp only [m_credencelaw18_kept_J2, m_credencelaw18_kept_J1]
        rw [if_neg (by simp), wS (by omega)]
        exact ih (i + 1) (by omega) (by omega)
    · rw [if_neg (by rw [hlen]; simp; omega)]
      simp
theorem kept_eq (l : List Int) (hl : l.length < 1048576) (hN : 1048600 < N) : m_credencelaw18_kept N l.length (l ++ marks9 9) l = some true := by
  unfold m_credencelaw18_kept
  rw [chk_pos (by rw [w64 (by omega)]; simp [marks9]; omega)]
  exact kept_L1 l hl N 0 (by omega) (by omega)

theorem OrderCheck_true (l m : List Int) (hl : l.length < 1048576) (hm : m.length < 1048576) (hN : 3000000 ≤ N) : m_credencelaw18_OrderCheck N l m = some true := by
  unfold m_credencelaw18_OrderCheck w_credencelaw18_awake
  rw [ints_eq l hl (by omega), ints_eq m hm (by omega)]
  simp only [Option.bind_some, if_true, List.take_left]
  rw [check_eq l m hl hm, refCheck_eq l m hl hm (by omega), kept_eq l hl (by omega), kept_eq m hm (by omega)]
  simp only [Option.bind_some, m_credencelaw18_OrderCheck_J1]
  simp

end Go.Proofs.Ytgkofjmeopbkbaa
