/-
  What functions of the program compute, as plain Lean functions (m_..), and proofs that they compute it (c_..). Printed by a program of the author; no conditions.
-/
import Derived.Test.YtgggjmmljagkmaaCell
import Derived.Test.YtgggjmmljagkmaaProg
import Derived.Test.YtgggjmmljagkmaaTwo
set_option linter.unusedVariables false
namespace Go.Proofs.Ytgggjmmljagkmaa
open Go Go.RowKit


theorem w64 {x : Int} (h : -9223372036854775808 ≤ x ∧ x ≤ 9223372036854775807) : IntKind.i64.wrap x = x := by rw [IntKind.wrap_i64]; omega
theorem chk_pos {α : Type} {c : Prop} [Decidable c] {x : Option α} (h : c) : chk c x = x := if_pos h
theorem at?_lt {α : Type} {xs : List α} {k : Nat} (h : k < xs.length) : at? xs (k : Int) = some xs[k] := by rw [at?_nat]; exact List.getElem?_eq_getElem h
theorem at?_of {α : Type} {xs : List α} {j : Int} {x : α} (h0 : 0 ≤ j) (h : xs[j.toNat]? = some x) : at? xs j = some x := by unfold at?; rw [if_pos h0, h]
theorem wS {k : Nat} (h : k < 9223372036854775807) : IntKind.i64.wrap ((k : Int) + 1) = ((k + 1 : Nat) : Int) := by rw [w64 (by omega)]; rfl
theorem nodup_le {α : Type} [DecidableEq α] : ∀ {l r : List α}, l.Nodup → (∀ x ∈ l, x ∈ r) → l.length ≤ r.length
  | [], _, _, _ => Nat.zero_le _
  | x :: l, r, h, hs => by
    have h1 := List.nodup_cons.1 h
    have hx := hs x List.mem_cons_self
    have h2 := nodup_le (r := r.erase x) h1.2 fun y hy => (List.mem_erase_of_ne (fun e => h1.1 (by rw [← e]; exact hy))).2 (hs y (List.mem_cons_of_mem _ hy))
    rw [List.length_erase_of_mem hx] at h2
    have := List.length_pos_of_mem hx
    rw [List.length_cons]; omega

section
variable {K V : Type} [DecidableEq K]
theorem mget_cons (p : K × V) (es : List (K × V)) (k : K) : mget (p :: es) k = if p.1 = k then some p.2 else mget es k := by
  rw [mget, List.find?_cons]
  by_cases h : p.1 = k
  · rw [if_pos h, decide_eq_true h]; rfl
  · rw [if_neg h, decide_eq_false h]; rfl
theorem mget_app (es : List (K × V)) (k k' : K) (v : V) (h : mget es k = none) : mget (es ++ [(k, v)]) k' = if k' = k then some v else mget es k' := by
  induction es with
  | nil =>
    rw [List.nil_append, mget_cons]
    by_cases hk : k = k'
    · subst hk; simp
    · rw [if_neg hk, if_neg (Ne.symm hk)]
  | cons p es ih =>
    rw [mget_cons] at h
    split at h
    · cases h
    · rename_i hp
      rw [List.cons_append, mget_cons, mget_cons, ih h]
      by_cases h1 : p.1 = k'
      · rw [if_pos h1, if_pos h1, if_neg (fun e => hp (h1.trans e))]
      · rw [if_neg h1, if_neg h1]
theorem mget_mapk (es : List (K × V)) (k k' : K) (v : V) : mget (es.map fun p => if p.1 = k then (k, v) else p) k' = if k' = k then (mget es k).map fun _ => v else mget es k' := by
  induction es with
  | nil => simp [mget]
  | cons p es ih =>
    rw [List.map_cons, mget_cons, mget_cons, mget_cons, ih]
    by_cases h1 : p.1 = k
    · rw [if_pos h1, if_pos h1]
      by_cases h2 : k' = k
      · subst h2; rw [if_pos rfl, if_pos rfl]; rfl
      · rw [if_neg (Ne.symm h2), if_neg h2, if_neg h2, if_neg (fun e => h2 (e.symm.trans h1))]
    · rw [if_neg h1, if_neg h1]
      by_cases h3 : p.1 = k'
      · rw [if_pos h3, if_pos h3, if_neg (fun e => h1 (h3.trans e))]
      · rw [if_neg h3, if_neg h3]
theorem mget_mput (es : List (K × V)) (k k' : K) (v : V) : mget (mput es k v) k' = if k' = k then some v else mget es k' := by
  rw [mput]
  by_cases h : (mget es k).isSome = true
  · rw [if_pos h, mget_mapk]
    obtain ⟨u, hu⟩ := Option.isSome_iff_exists.1 h
    rw [hu]; rfl
  · rw [if_neg h]
    exact mget_app es k k' v (by simpa using h)
end



def m_credenceref14_Has_L1 (N : Nat) (p0_l : (List Int)) (p1_x : Int) : Nat → Int → Option Bool
  | 0, _ => none
  | n_1 + 1, i_4 => if (decide (i_4 < (p0_l.length : Int))) = true then ((at? p0_l i_4).bind fun e_5 => if (decide (e_5 = p1_x)) = true then (some true) else ((m_credenceref14_Has_L1 N p0_l p1_x n_1) (IntKind.i64.wrap (i_4 + 1)))) else (some false)

def m_credenceref14_Has (N : Nat) (p0_l : (List Int)) (p1_x : Int) : Option Bool :=
  m_credenceref14_Has_L1 N p0_l p1_x N 0

set_option maxRecDepth 100000 in
theorem c_credenceref14_Has (N : Nat) (col : Col) (w0 : World) (a0 : Option Addr) (cap0 : Nat) (p0_l : (List Int)) (p1_x : Int) (h0 : Sl (Rep.int .i64) col w0 a0 cap0 p0_l) (r : Bool) (hm : m_credenceref14_Has N p0_l p1_x = some r) :
    Calls Try.prog 46 #[(.slice a0 p0_l.length cap0), (.int .i64 p1_x)] w0 (fun e w' => e = .returned ((.bool r)) ∧ Below w0.heap.size w0 w') := by
  refine calls_of1 4 (m := 18) (args := [(.slice a0 p0_l.length cap0), (.int .i64 p1_x)]) Try.func46 rfl rfl rfl rfl rfl ?_
  rw [m_credenceref14_Has.eq_1] at hm
  have hst := St.start col w0
  replace h0 := h0.keep (Stay.start col w0)
  refine wseq ?_
  refine wregion ?_
  refine lv (v := (.bool false)) rfl rfl (r_assign rfl) ?_
  refine lnil ?_
  refine wseq ?_
  refine wseq ?_
  refine wregion ?_
  refine lv (v := (.int .i64 0)) rfl rfl (r_assign rfl) ?_
  refine lnil ?_
  refine wblock ?_
  refine wloop (fun n f w_2 => ∃ (col_3 : Col) (i_4 : Int) (n_1 : Nat), n_1 = n ∧ m_credenceref14_Has_L1 N p0_l p1_x n_1 i_4 = some r ∧ St w0 (col0 col) col_3 w_2 ∧ Sl (Rep.int .i64) col_3 w_2 a0 cap0 p0_l ∧ f 0 = (.slice a0 p0_l.length cap0) ∧ f 1 = (.int .i64 p1_x) ∧ f 5 = (.int .i64 i_4) ∧ f 1000000 = (enc [])) N ⟨(col0 col), 0, N, rfl, hm, hst, h0, rfl, rfl, rfl, rfl⟩ ?_
  clear hm; intro n f w_2 hI
  obtain ⟨col_3, i_4, n_1, hn, hm, hst, h0, hs0, hs1, hs5, hs1000000⟩ := hI
  subst hn
  refine .ld (d := 0) (v := (.slice a0 p0_l.length cap0)) hs0 ?_
  refine .ld (d := 1) (v := (.int .i64 p1_x)) hs1 ?_
  refine .ld (d := 5) (v := (.int .i64 i_4)) hs5 ?_
  refine .ld (d := 1000000) (v := (enc [])) hs1000000 ?_
  clear hs0 hs1 hs5 hs1000000
  cases n_1 with
  | zero => rw [m_credenceref14_Has_L1.eq_1] at hm; cases hm
  | succ n_1 =>
    rw [m_credenceref14_Has_L1.eq_2] at hm
    refine wseq ?_
    refine wseq ?_
    refine wregion ?_
    refine lv (v := (.int .i64 i_4)) rfl rfl (r_move rfl) ?_
    refine lv (v := (.slice a0 p0_l.length cap0)) rfl rfl (r_move rfl) ?_
    refine lv (v := (.int .i64 (p0_l.length : Int))) rfl rfl (r_len Try.underlying31 rfl) ?_
    refine lv (v := (.bool (decide (i_4 < (p0_l.length : Int))))) rfl rfl (r_lss i_4 (p0_l.length : Int) rfl rfl) ?_
    refine lnil ?_
    refine wcond (decide (i_4 < (p0_l.length : Int))) rfl (fun hb => ?_) (fun hb => ?_)
    · rw [if_pos hb] at hm
      clear hb
      refine wskip ?_
      refine wseq ?_
      refine wblock ?_
      refine wseq ?_
      refine wregion ?_
      refine lv (v := (.slice a0 p0_l.length cap0)) rfl rfl (r_move rfl) ?_
      refine lv (v := (.int .i64 i_4)) rfl rfl (r_move rfl) ?_
      obtain ⟨e_5, hj_6, hm⟩ := bind_some hm
      refine lv (v := (sptr a0 (Int.toNat i_4 * 1))) rfl rfl (r_idx Try.underlying31 Try.sizeOf3 rfl rfl (at?_some hj_6).1 (at?_some hj_6).2.1 (h0.addr hj_6)) ?_
      refine lv (v := (.int .i64 e_5)) rfl rfl (r_ld Try.isAgg3 rfl (h0.atInt hj_6)) ?_
      refine lv (v := (.int .i64 p1_x)) rfl rfl (r_move rfl) ?_
      refine lv (v := (.bool (decide (e_5 = p1_x)))) rfl rfl (r_eql e_5 p1_x rfl rfl) ?_
      refine lnil ?_
      refine wcond (decide (e_5 = p1_x)) rfl (fun hb => ?_) (fun hb => ?_)
      · rw [if_pos hb] at hm
        clear hb
        refine wseq ?_
        refine wregion ?_
        refine lv (v := (.bool true)) rfl rfl (r_assign rfl) ?_
        refine lnil ?_
        refine wret ?_
        cases hm
        exact ⟨rfl, rfl, hst.below⟩
      · rw [if_neg (by rw [hb]; decide)] at hm
        clear hb
        refine wskip ?_
        refine wregion ?_
        refine lv (v := (.int .i64 i_4)) rfl rfl (r_move rfl) ?_
        refine lv (v := (.int .i64 (IntKind.i64.wrap (i_4 + 1)))) rfl rfl (r_add i_4 1 rfl rfl) ?_
        refine lv (v := (.int .i64 (IntKind.i64.wrap (i_4 + 1)))) rfl rfl (r_assign rfl) ?_
        refine lnil ?_
        exact ⟨n_1, by omega, ⟨col_3, (IntKind.i64.wrap (i_4 + 1)), n_1, rfl, hm, hst, h0, rfl, rfl, rfl, rfl⟩⟩
    · rw [if_neg (by rw [hb]; decide)] at hm
      clear hb
      refine wexit (inB_hit ?_)
      refine wseq ?_
      refine wregion ?_
      refine lv (v := (.bool false)) rfl rfl (r_assign rfl) ?_
      refine lnil ?_
      refine wret ?_
      cases hm
      exact ⟨rfl, rfl, hst.below⟩




def m_credenceref14_Same_L1 (N : Nat) (p0_a : (List Int)) (p1_b : (List Int)) : Nat → Int → Option Bool
  | 0, _ => none
  | n_1 + 1, i_4 => if (decide (i_4 < (p0_a.length : Int))) = true then ((at? p0_a i_4).bind fun e_5 => (at? p1_b i_4).bind fun e_7 => if (!decide (e_5 = e_7)) = true then (some false) else ((m_credenceref14_Same_L1 N p0_a p1_b n_1) (IntKind.i64.wrap (i_4 + 1)))) else (some true)

def m_credenceref14_Same (N : Nat) (p0_a : (List Int)) (p1_b : (List Int)) : Option Bool :=
  if (!decide ((p0_a.length : Int) = (p1_b.length : Int))) = true then (some false) else (m_credenceref14_Same_L1 N p0_a p1_b N 0)

set_option maxRecDepth 100000 in
theorem c_credenceref14_Same (N : Nat) (col : Col) (w0 : World) (a0 : Option Addr) (cap0 : Nat) (p0_a : (List Int)) (a1 : Option Addr) (cap1 : Nat) (p1_b : (List Int)) (h0 : Sl (Rep.int .i64) col w0 a0 cap0 p0_a) (h1 : Sl (Rep.int .i64) col w0 a1 cap1 p1_b) (r : Bool) (hm : m_credenceref14_Same N p0_a p1_b = some r) :
    Calls Try.prog 12 #[(.slice a0 p0_a.length cap0), (.slice a1 p1_b.length cap1)] w0 (fun e w' => e = .returned ((.bool r)) ∧ Below w0.heap.size w0 w') := by
  refine calls_of1 4 (m := 26) (args := [(.slice a0 p0_a.length cap0), (.slice a1 p1_b.length cap1)]) Try.func12 rfl rfl rfl rfl rfl ?_
  rw [m_credenceref14_Same.eq_1] at hm
  have hst := St.start col w0
  replace h0 := h0.keep (Stay.start col w0)
  replace h1 := h1.keep (Stay.start col w0)
  refine wseq ?_
  refine wregion ?_
  refine lv (v := (.bool false)) rfl rfl (r_assign rfl) ?_
  refine lnil ?_
  refine wseq ?_
  refine wseq ?_
  refine wregion ?_
  refine lv (v := (.slice a0 p0_a.length cap0)) rfl rfl (r_move rfl) ?_
  refine lv (v := (.int .i64 (p0_a.length : Int))) rfl rfl (r_len Try.underlying31 rfl) ?_
  refine lv (v := (.slice a1 p1_b.length cap1)) rfl rfl (r_move rfl) ?_
  refine lv (v := (.int .i64 (p1_b.length : Int))) rfl rfl (r_len Try.underlying31 rfl) ?_
  refine lv (v := (.bool (!decide ((p0_a.length : Int) = (p1_b.length : Int))))) rfl rfl (r_neq (p0_a.length : Int) (p1_b.length : Int) rfl rfl) ?_
  refine lnil ?_
  refine wcond (!decide ((p0_a.length : Int) = (p1_b.length : Int))) rfl (fun hb => ?_) (fun hb => ?_)
  · rw [if_pos hb] at hm
    clear hb
    refine wseq ?_
    refine wregion ?_
    refine lv (v := (.bool false)) rfl rfl (r_assign rfl) ?_
    refine lnil ?_
    refine wret ?_
    cases hm
    exact ⟨rfl, rfl, hst.below⟩
  · rw [if_neg (by rw [hb]; decide)] at hm
    clear hb
    refine wskip ?_
    refine wseq ?_
    refine wseq ?_
    refine wregion ?_
    refine lv (v := (.int .i64 0)) rfl rfl (r_assign rfl) ?_
    refine lnil ?_
    refine wblock ?_
    refine wloop (fun n f w_2 => ∃ (col_3 : Col) (i_4 : Int) (n_1 : Nat), n_1 = n ∧ m_credenceref14_Same_L1 N p0_a p1_b n_1 i_4 = some r ∧ St w0 (col0 col) col_3 w_2 ∧ Sl (Rep.int .i64) col_3 w_2 a0 cap0 p0_a ∧ Sl (Rep.int .i64) col_3 w_2 a1 cap1 p1_b ∧ f 0 = (.slice a0 p0_a.length cap0) ∧ f 1 = (.slice a1 p1_b.length cap1) ∧ f 5 = (.int .i64 i_4) ∧ f 1000000 = (enc [])) N ⟨(col0 col), 0, N, rfl, hm, hst, h0, h1, rfl, rfl, rfl, rfl⟩ ?_
    clear hm; intro n f w_2 hI
    obtain ⟨col_3, i_4, n_1, hn, hm, hst, h0, h1, hs0, hs1, hs5, hs1000000⟩ := hI
    subst hn
    refine .ld (d := 0) (v := (.slice a0 p0_a.length cap0)) hs0 ?_
    refine .ld (d := 1) (v := (.slice a1 p1_b.length cap1)) hs1 ?_
    refine .ld (d := 5) (v := (.int .i64 i_4)) hs5 ?_
    refine .ld (d := 1000000) (v := (enc [])) hs1000000 ?_
    clear hs0 hs1 hs5 hs1000000
    cases n_1 with
    | zero => rw [m_credenceref14_Same_L1.eq_1] at hm; cases hm
    | succ n_1 =>
      rw [m_credenceref14_Same_L1.eq_2] at hm
      refine wseq ?_
      refine wseq ?_
      refine wregion ?_
      refine lv (v := (.int .i64 i_4)) rfl rfl (r_move rfl) ?_
      refine lv (v := (.slice a0 p0_a.length cap0)) rfl rfl (r_move rfl) ?_
      refine lv (v := (.int .i64 (p0_a.length : Int))) rfl rfl (r_len Try.underlying31 rfl) ?_
      refine lv (v := (.bool (decide (i_4 < (p0_a.length : Int))))) rfl rfl (r_lss i_4 (p0_a.length : Int) rfl rfl) ?_
      refine lnil ?_
      refine wcond (decide (i_4 < (p0_a.length : Int))) rfl (fun hb => ?_) (fun hb => ?_)
      · rw [if_pos hb] at hm
        clear hb
        refine wskip ?_
        refine wseq ?_
        refine wblock ?_
        refine wseq ?_
        refine wquiet (col := col_3) (by kernel_rfl) (by kernel_rfl) ?_
        refine qv (v := (.slice a0 p0_a.length cap0)) rfl (fun _ hC => r_move rfl) ?_
        refine qv (v := (.int .i64 i_4)) rfl (fun _ hC => r_move rfl) ?_
        obtain ⟨e_5, hj_6, hm⟩ := bind_some hm
        refine qv (v := (sptr a0 (Int.toNat i_4 * 1))) rfl (fun _ hC => r_idx Try.underlying31 Try.sizeOf3 rfl rfl (at?_some hj_6).1 (at?_some hj_6).2.1 (h0.addr hj_6)) ?_
        refine qv (v := (.int .i64 e_5)) rfl (fun _ hC => r_ld Try.isAgg3 rfl ((h0.gr (Grow.of_below (col := col_3) hC.below)).atInt hj_6)) ?_
        refine qv (v := (.slice a1 p1_b.length cap1)) rfl (fun _ hC => r_move rfl) ?_
        refine qv (v := (.int .i64 i_4)) rfl (fun _ hC => r_move rfl) ?_
        obtain ⟨e_7, hj_8, hm⟩ := bind_some hm
        refine qv (v := (sptr a1 (Int.toNat i_4 * 1))) rfl (fun _ hC => r_idx Try.underlying31 Try.sizeOf3 rfl rfl (at?_some hj_8).1 (at?_some hj_8).2.1 (h1.addr hj_8)) ?_
        refine qv (v := (.int .i64 e_7)) rfl (fun _ hC => r_ld Try.isAgg3 rfl ((h1.gr (Grow.of_below (col := col_3) hC.below)).atInt hj_8)) ?_
        refine qv (v := (.bool (!decide (e_5 = e_7)))) rfl (fun _ hC => r_neq e_5 e_7 rfl rfl) ?_
        refine qnil ?_
        intro w_9 hC
        replace hC : Grow col_3 w_2 col_3 w_9 := .of_below hC.below
        replace h0 := h0.gr hC
        replace h1 := h1.gr hC
        replace hst := hst.grow hC
        refine wcond (!decide (e_5 = e_7)) rfl (fun hb => ?_) (fun hb => ?_)
        · rw [if_pos hb] at hm
          clear hb
          refine wseq ?_
          refine wregion ?_
          refine lv (v := (.bool false)) rfl rfl (r_assign rfl) ?_
          refine lnil ?_
          refine wret ?_
          cases hm
          exact ⟨rfl, rfl, hst.below⟩
        · rw [if_neg (by rw [hb]; decide)] at hm
          clear hb
          refine wskip ?_
          refine wregion ?_
          refine lv (v := (.int .i64 i_4)) rfl rfl (r_move rfl) ?_
          refine lv (v := (.int .i64 (IntKind.i64.wrap (i_4 + 1)))) rfl rfl (r_add i_4 1 rfl rfl) ?_
          refine lv (v := (.int .i64 (IntKind.i64.wrap (i_4 + 1)))) rfl rfl (r_assign rfl) ?_
          refine lnil ?_
          exact ⟨n_1, by omega, ⟨col_3, (IntKind.i64.wrap (i_4 + 1)), n_1, rfl, hm, hst, h0, h1, rfl, rfl, rfl, rfl⟩⟩
      · rw [if_neg (by rw [hb]; decide)] at hm
        clear hb
        refine wexit (inB_hit ?_)
        refine wseq ?_
        refine wregion ?_
        refine lv (v := (.bool true)) rfl rfl (r_assign rfl) ?_
        refine lnil ?_
        refine wret ?_
        cases hm
        exact ⟨rfl, rfl, hst.below⟩




def m_credenceref14_inside_J1 (k_8 : Int) (kk_L2 : (Int → Option Bool)) (v_26 : Bool) : Option Bool :=
  if v_26 = true then (some false) else (kk_L2 (IntKind.i64.wrap (k_8 + 1)))

def m_credenceref14_inside_L2 (N : Nat) (p0_parents : (List (List Int))) (i_4 : Int) (kk_L1 : (Int → Option Bool)) : Nat → Int → Option Bool
  | 0, _ => none
  | n_5 + 1, k_8 => (at? p0_parents i_4).bind fun e_9 => if (decide (k_8 < (e_9.length : Int))) = true then ((at? e_9 k_8).bind fun e_21 => if (decide (e_21 < 0)) = true then (m_credenceref14_inside_J1 k_8 (m_credenceref14_inside_L2 N p0_parents i_4 kk_L1 n_5) true) else (m_credenceref14_inside_J1 k_8 (m_credenceref14_inside_L2 N p0_parents i_4 kk_L1 n_5) (decide ((p0_parents.length : Int) ≤ e_21)))) else (kk_L1 (IntKind.i64.wrap (i_4 + 1)))

def m_credenceref14_inside_L1 (N : Nat) (p0_parents : (List (List Int))) : Nat → Int → Option Bool
  | 0, _ => none
  | n_1 + 1, i_4 => if (decide (i_4 < (p0_parents.length : Int))) = true then (m_credenceref14_inside_L2 N p0_parents i_4 (m_credenceref14_inside_L1 N p0_parents n_1) N 0) else (some true)

def m_credenceref14_inside (N : Nat) (p0_parents : (List (List Int))) : Option Bool :=
  m_credenceref14_inside_L1 N p0_parents N 0

set_option maxRecDepth 100000 in
theorem c_credenceref14_inside (N : Nat) (col : Col) (w0 : World) (a0 : Option Addr) (cap0 : Nat) (p0_parents : (List (List Int))) (h0 : Sl (Rep.slice (Rep.int .i64)) col w0 a0 cap0 p0_parents) (r : Bool) (hm : m_credenceref14_inside N p0_parents = some r) :
    Calls Try.prog 35 #[(.slice a0 p0_parents.length cap0)] w0 (fun e w' => e = .returned ((.bool r)) ∧ Below w0.heap.size w0 w') := by
  refine calls_of1 2 (m := 36) (args := [(.slice a0 p0_parents.length cap0)]) Try.func35 rfl rfl rfl rfl rfl ?_
  rw [m_credenceref14_inside.eq_1] at hm
  have hst := St.start col w0
  replace h0 := h0.keep (Stay.start col w0)
  refine wseq ?_
  refine wregion ?_
  refine lv (v := (.bool false)) rfl rfl (r_assign rfl) ?_
  refine lnil ?_
  refine wseq ?_
  refine wseq ?_
  refine wregion ?_
  refine lv (v := (.int .i64 0)) rfl rfl (r_assign rfl) ?_
  refine lnil ?_
  refine wblock ?_
  refine wloop (fun n f w_2 => ∃ (col_3 : Col) (i_4 : Int) (n_1 : Nat), n_1 = n ∧ m_credenceref14_inside_L1 N p0_parents n_1 i_4 = some r ∧ St w0 (col0 col) col_3 w_2 ∧ Sl (Rep.slice (Rep.int .i64)) col_3 w_2 a0 cap0 p0_parents ∧ f 0 = (.slice a0 p0_parents.length cap0) ∧ f 3 = (.int .i64 i_4) ∧ f 1000000 = (enc [])) N ⟨(col0 col), 0, N, rfl, hm, hst, h0, rfl, rfl, rfl⟩ ?_
  clear hm; intro n f w_2 hI
  obtain ⟨col_3, i_4, n_1, hn, hm, hst, h0, hs0, hs3, hs1000000⟩ := hI
  subst hn
  refine .ld (d := 0) (v := (.slice a0 p0_parents.length cap0)) hs0 ?_
  refine .ld (d := 3) (v := (.int .i64 i_4)) hs3 ?_
  refine .ld (d := 1000000) (v := (enc [])) hs1000000 ?_
  clear hs0 hs3 hs1000000
  cases n_1 with
  | zero => rw [m_credenceref14_inside_L1.eq_1] at hm; cases hm
  | succ n_1 =>
    rw [m_credenceref14_inside_L1.eq_2] at hm
    refine wseq ?_
    refine wseq ?_
    refine wregion ?_
    refine lv (v := (.int .i64 i_4)) rfl rfl (r_move rfl) ?_
    refine lv (v := (.slice a0 p0_parents.length cap0)) rfl rfl (r_move rfl) ?_
    refine lv (v := (.int .i64 (p0_parents.length : Int))) rfl rfl (r_len Try.underlying22 rfl) ?_
    refine lv (v := (.bool (decide (i_4 < (p0_parents.length : Int))))) rfl rfl (r_lss i_4 (p0_parents.length : Int) rfl rfl) ?_
    refine lnil ?_
    refine wcond (decide (i_4 < (p0_parents.length : Int))) rfl (fun hb => ?_) (fun hb => ?_)
    · rw [if_pos hb] at hm
      clear hb
      refine wskip ?_
      refine wseq ?_
      refine wblock ?_
      refine wseq ?_
      refine wregion ?_
      refine lv (v := (.int .i64 0)) rfl rfl (r_assign rfl) ?_
      refine lnil ?_
      refine wblock ?_
      refine wloop (fun n f w_6 => ∃ (col_7 : Col) (k_8 : Int) (n_5 : Nat), n_5 = n ∧ m_credenceref14_inside_L2 N p0_parents i_4 (m_credenceref14_inside_L1 N p0_parents n_1) n_5 k_8 = some r ∧ St w0 (col0 col) col_7 w_6 ∧ Sl (Rep.slice (Rep.int .i64)) col_7 w_6 a0 cap0 p0_parents ∧ f 0 = (.slice a0 p0_parents.length cap0) ∧ f 3 = (.int .i64 i_4) ∧ f 4 = (.int .i64 k_8) ∧ f 1000000 = (enc [])) N ⟨col_3, 0, N, rfl, hm, hst, h0, rfl, rfl, rfl, rfl⟩ ?_
      clear hm; intro n f w_6 hI
      obtain ⟨col_7, k_8, n_5, hn, hm, hst, h0, hs0, hs3, hs4, hs1000000⟩ := hI
      subst hn
      refine .ld (d := 0) (v := (.slice a0 p0_parents.length cap0)) hs0 ?_
      refine .ld (d := 3) (v := (.int .i64 i_4)) hs3 ?_
      refine .ld (d := 4) (v := (.int .i64 k_8)) hs4 ?_
      refine .ld (d := 1000000) (v := (enc [])) hs1000000 ?_
      clear hs0 hs3 hs4 hs1000000
      cases n_5 with
      | zero => rw [m_credenceref14_inside_L2.eq_1] at hm; cases hm
      | succ n_5 =>
        rw [m_credenceref14_inside_L2.eq_2] at hm
        refine wseq ?_
        refine wseq ?_
        refine wregion ?_
        refine lv (v := (.int .i64 k_8)) rfl rfl (r_move rfl) ?_
        refine lv (v := (.slice a0 p0_parents.length cap0)) rfl rfl (r_move rfl) ?_
        refine lv (v := (.int .i64 i_4)) rfl rfl (r_move rfl) ?_
        obtain ⟨e_9, hj_10, hm⟩ := bind_some hm
        refine lv (v := (sptr a0 (Int.toNat i_4 * 1))) rfl rfl (r_idx Try.underlying22 Try.sizeOf31 rfl rfl (at?_some hj_10).1 (at?_some hj_10).2.1 (h0.addr hj_10)) ?_
        obtain ⟨_, hr_11, hA_12⟩ := h0.atN hj_10
        obtain ⟨⟨a_13, cap_14, rfl, h_15⟩, _⟩ := hr_11
        refine lv (v := (.slice a_13 e_9.length cap_14)) rfl rfl (r_ld Try.isAgg31 rfl hA_12.one) ?_
        refine lv (v := (.int .i64 (e_9.length : Int))) rfl rfl (r_len Try.underlying31 rfl) ?_
        refine lv (v := (.bool (decide (k_8 < (e_9.length : Int))))) rfl rfl (r_lss k_8 (e_9.length : Int) rfl rfl) ?_
        refine lnil ?_
        refine wcond (decide (k_8 < (e_9.length : Int))) rfl (fun hb => ?_) (fun hb => ?_)
        · rw [if_pos hb] at hm
          clear hb
          refine wskip ?_
          refine wseq ?_
          refine wblock ?_
          refine wseq ?_
          refine wregion ?_
          refine lv (v := (.slice a0 p0_parents.length cap0)) rfl rfl (r_move rfl) ?_
          refine lv (v := (.int .i64 i_4)) rfl rfl (r_move rfl) ?_
          refine lv (v := (sptr a0 (Int.toNat i_4 * 1))) rfl rfl (r_idx Try.underlying22 Try.sizeOf31 rfl rfl (at?_some hj_10).1 (at?_some hj_10).2.1 (h0.addr hj_10)) ?_
          obtain ⟨_, hr_16, hA_17⟩ := h0.atN hj_10
          obtain ⟨⟨a_18, cap_19, rfl, h_20⟩, _⟩ := hr_16
          refine lv (v := (.slice a_18 e_9.length cap_19)) rfl rfl (r_ld Try.isAgg31 rfl hA_17.one) ?_
          refine lv (v := (.int .i64 k_8)) rfl rfl (r_move rfl) ?_
          obtain ⟨e_21, hj_22, hm⟩ := bind_some hm
          refine lv (v := (sptr a_18 (Int.toNat k_8 * 1))) rfl rfl (r_idx Try.underlying31 Try.sizeOf3 rfl rfl (at?_some hj_22).1 (at?_some hj_22).2.1 (h_20.addr hj_22)) ?_
          refine lv (v := (.int .i64 e_21)) rfl rfl (r_ld Try.isAgg3 rfl (h_20.atInt hj_22)) ?_
          refine lv (v := (.int .i64 e_21)) rfl rfl (r_assign rfl) ?_
          refine lnil ?_
          refine wseq ?_
          refine Wp.cut (fun f w_24 => ∃ (col_25 : Col) (v_26 : Bool), m_credenceref14_inside_J1 k_8 (m_credenceref14_inside_L2 N p0_parents i_4 (m_credenceref14_inside_L1 N p0_parents n_1) n_5) v_26 = some r ∧ St w0 (col0 col) col_25 w_24 ∧ Sl (Rep.slice (Rep.int .i64)) col_25 w_24 a0 cap0 p0_parents ∧ f 0 = (.slice a0 p0_parents.length cap0) ∧ f 3 = (.int .i64 i_4) ∧ f 35 = (.bool v_26) ∧ f 4 = (.int .i64 k_8) ∧ f 1000000 = (enc [])) ?_ ?_
          · intro f w_24 hJ
            obtain ⟨col_25, v_26, hm, hst, h0, hs0, hs3, hs35, hs4, hs1000000⟩ := hJ
            rw [m_credenceref14_inside_J1.eq_1] at hm
            refine .ld (d := 0) (v := (.slice a0 p0_parents.length cap0)) hs0 ?_
            refine .ld (d := 3) (v := (.int .i64 i_4)) hs3 ?_
            refine .ld (d := 35) (v := (.bool v_26)) hs35 ?_
            refine .ld (d := 4) (v := (.int .i64 k_8)) hs4 ?_
            refine .ld (d := 1000000) (v := (enc [])) hs1000000 ?_
            clear hs0 hs3 hs35 hs4 hs1000000
            refine wcond (v_26) rfl (fun hb => ?_) (fun hb => ?_)
            · rw [if_pos hb] at hm
              clear hb
              refine wseq ?_
              refine wregion ?_
              refine lv (v := (.bool false)) rfl rfl (r_assign rfl) ?_
              refine lnil ?_
              refine wret ?_
              cases hm
              exact ⟨rfl, rfl, hst.below⟩
            · rw [if_neg (by rw [hb]; decide)] at hm
              clear hb
              refine wskip ?_
              refine wregion ?_
              refine lv (v := (.int .i64 k_8)) rfl rfl (r_move rfl) ?_
              refine lv (v := (.int .i64 (IntKind.i64.wrap (k_8 + 1)))) rfl rfl (r_add k_8 1 rfl rfl) ?_
              refine lv (v := (.int .i64 (IntKind.i64.wrap (k_8 + 1)))) rfl rfl (r_assign rfl) ?_
              refine lnil ?_
              exact ⟨n_5, by omega, ⟨col_25, (IntKind.i64.wrap (k_8 + 1)), n_5, rfl, hm, hst, h0, rfl, rfl, rfl, rfl⟩⟩
          · refine wregion ?_
            refine lv (v := (.int .i64 e_21)) rfl rfl (r_move rfl) ?_
            refine lv (v := (.bool (decide (e_21 < 0)))) rfl rfl (r_lss e_21 0 rfl rfl) ?_
            refine lv (v := (.bool (decide (e_21 < 0)))) rfl rfl (r_move rfl) ?_
            by_cases hg_27 : (decide (e_21 < 0)) = true
            · rw [if_pos hg_27] at hm
              refine lp (b := decide (e_21 < 0)) 30 rfl rfl rfl rfl (by rw [hg_27]; rfl) ?_
              refine lp (b := decide (e_21 < 0)) 30 rfl rfl rfl rfl (by rw [hg_27]; rfl) ?_
              refine lp (b := decide (e_21 < 0)) 30 rfl rfl rfl rfl (by rw [hg_27]; rfl) ?_
              refine lp (b := decide (e_21 < 0)) 30 rfl rfl rfl rfl (by rw [hg_27]; rfl) ?_
              refine lv (v := (.bool true)) rfl rfl (r_pickT (congrArg Value.bool hg_27) rfl) ?_
              refine lnil ?_
              exact ⟨col_7, true, hm, hst, h0, rfl, rfl, rfl, rfl, rfl⟩
            · rw [if_neg hg_27] at hm
              replace hg_27 := Bool.eq_false_iff.2 hg_27
              refine lg (b := decide (e_21 < 0)) 30 rfl rfl rfl (by rw [hg_27]; rfl) ?_
              refine lv (v := (.int .i64 e_21)) rfl rfl (r_move rfl) ?_
              refine lg (b := decide (e_21 < 0)) 30 rfl rfl rfl (by rw [hg_27]; rfl) ?_
              refine lv (v := (.slice a0 p0_parents.length cap0)) rfl rfl (r_move rfl) ?_
              refine lg (b := decide (e_21 < 0)) 30 rfl rfl rfl (by rw [hg_27]; rfl) ?_
              refine lv (v := (.int .i64 (p0_parents.length : Int))) rfl rfl (r_len Try.underlying22 rfl) ?_
              refine lg (b := decide (e_21 < 0)) 30 rfl rfl rfl (by rw [hg_27]; rfl) ?_
              refine lv (v := (.bool (decide ((p0_parents.length : Int) ≤ e_21)))) rfl rfl (r_geq e_21 (p0_parents.length : Int) rfl rfl) ?_
              refine lv (v := (.bool (decide ((p0_parents.length : Int) ≤ e_21)))) rfl rfl (r_pickF (congrArg Value.bool hg_27) rfl) ?_
              refine lnil ?_
              exact ⟨col_7, (decide ((p0_parents.length : Int) ≤ e_21)), hm, hst, h0, rfl, rfl, rfl, rfl, rfl⟩
        · rw [if_neg (by rw [hb]; decide)] at hm
          clear hb
          refine wexit (inB_hit ?_)
          refine wregion ?_
          refine lv (v := (.int .i64 i_4)) rfl rfl (r_move rfl) ?_
          refine lv (v := (.int .i64 (IntKind.i64.wrap (i_4 + 1)))) rfl rfl (r_add i_4 1 rfl rfl) ?_
          refine lv (v := (.int .i64 (IntKind.i64.wrap (i_4 + 1)))) rfl rfl (r_assign rfl) ?_
          refine lnil ?_
          exact ⟨n_1, by omega, ⟨col_7, (IntKind.i64.wrap (i_4 + 1)), n_1, rfl, hm, hst, h0, rfl, rfl, rfl⟩⟩
    · rw [if_neg (by rw [hb]; decide)] at hm
      clear hb
      refine wexit (inB_hit ?_)
      refine wseq ?_
      refine wregion ?_
      refine lv (v := (.bool true)) rfl rfl (r_assign rfl) ?_
      refine lnil ?_
      refine wret ?_
      cases hm
      exact ⟨rfl, rfl, hst.below⟩




def m_credenceref14_twice_L2 (N : Nat) (p0_parents : (List (List Int))) (i_4 : Int) (kk_L1 : (Int → Option Bool)) : Nat → Int → Option Bool
  | 0, _ => none
  | n_5 + 1, k_8 => (at? p0_parents i_4).bind fun e_9 => if (decide (k_8 < (e_9.length : Int))) = true then (chk ((0 : Int) ≤ k_8 ∧ k_8 ≤ (e_9.length : Int)) ((at? e_9 k_8).bind fun e_27 => (m_credenceref14_Has N (e_9.take (Int.toNat k_8)) e_27).bind fun r_29 => if r_29 = true then (some true) else ((m_credenceref14_twice_L2 N p0_parents i_4 kk_L1 n_5) (IntKind.i64.wrap (k_8 + 1))))) else (kk_L1 (IntKind.i64.wrap (i_4 + 1)))

def m_credenceref14_twice_L1 (N : Nat) (p0_parents : (List (List Int))) : Nat → Int → Option Bool
  | 0, _ => none
  | n_1 + 1, i_4 => if (decide (i_4 < (p0_parents.length : Int))) = true then (m_credenceref14_twice_L2 N p0_parents i_4 (m_credenceref14_twice_L1 N p0_parents n_1) N 0) else (some false)

def m_credenceref14_twice (N : Nat) (p0_parents : (List (List Int))) : Option Bool :=
  m_credenceref14_twice_L1 N p0_parents N 0

set_option maxRecDepth 100000 in
theorem c_credenceref14_twice (N : Nat) (col : Col) (w0 : World) (a0 : Option Addr) (cap0 : Nat) (p0_parents : (List (List Int))) (h0 : Sl (Rep.slice (Rep.int .i64)) col w0 a0 cap0 p0_parents) (r : Bool) (hm : m_credenceref14_twice N p0_parents = some r) :
    Calls Try.prog 36 #[(.slice a0 p0_parents.length cap0)] w0 (fun e w' => e = .returned ((.bool r)) ∧ Below w0.heap.size w0 w') := by
  refine calls_of1 2 (m := 34) (args := [(.slice a0 p0_parents.length cap0)]) Try.func36 rfl rfl rfl rfl rfl ?_
  rw [m_credenceref14_twice.eq_1] at hm
  have hst := St.start col w0
  replace h0 := h0.keep (Stay.start col w0)
  refine wseq ?_
  refine wregion ?_
  refine lv (v := (.bool false)) rfl rfl (r_assign rfl) ?_
  refine lnil ?_
  refine wseq ?_
  refine wseq ?_
  refine wregion ?_
  refine lv (v := (.int .i64 0)) rfl rfl (r_assign rfl) ?_
  refine lnil ?_
  refine wblock ?_
  refine wloop (fun n f w_2 => ∃ (col_3 : Col) (i_4 : Int) (n_1 : Nat), n_1 = n ∧ m_credenceref14_twice_L1 N p0_parents n_1 i_4 = some r ∧ St w0 (col0 col) col_3 w_2 ∧ Sl (Rep.slice (Rep.int .i64)) col_3 w_2 a0 cap0 p0_parents ∧ f 0 = (.slice a0 p0_parents.length cap0) ∧ f 3 = (.int .i64 i_4) ∧ f 1000000 = (enc [])) N ⟨(col0 col), 0, N, rfl, hm, hst, h0, rfl, rfl, rfl⟩ ?_
  clear hm; intro n f w_2 hI
  obtain ⟨col_3, i_4, n_1, hn, hm, hst, h0, hs0, hs3, hs1000000⟩ := hI
  subst hn
  refine .ld (d := 0) (v := (.slice a0 p0_parents.length cap0)) hs0 ?_
  refine .ld (d := 3) (v := (.int .i64 i_4)) hs3 ?_
  refine .ld (d := 1000000) (v := (enc [])) hs1000000 ?_
  clear hs0 hs3 hs1000000
  cases n_1 with
  | zero => rw [m_credenceref14_twice_L1.eq_1] at hm; cases hm
  | succ n_1 =>
    rw [m_credenceref14_twice_L1.eq_2] at hm
    refine wseq ?_
    refine wseq ?_
    refine wregion ?_
    refine lv (v := (.int .i64 i_4)) rfl rfl (r_move rfl) ?_
    refine lv (v := (.slice a0 p0_parents.length cap0)) rfl rfl (r_move rfl) ?_
    refine lv (v := (.int .i64 (p0_parents.length : Int))) rfl rfl (r_len Try.underlying22 rfl) ?_
    refine lv (v := (.bool (decide (i_4 < (p0_parents.length : Int))))) rfl rfl (r_lss i_4 (p0_parents.length : Int) rfl rfl) ?_
    refine lnil ?_
    refine wcond (decide (i_4 < (p0_parents.length : Int))) rfl (fun hb => ?_) (fun hb => ?_)
    · rw [if_pos hb] at hm
      clear hb
      refine wskip ?_
      refine wseq ?_
      refine wblock ?_
      refine wseq ?_
      refine wregion ?_
      refine lv (v := (.int .i64 0)) rfl rfl (r_assign rfl) ?_
      refine lnil ?_
      refine wblock ?_
      refine wloop (fun n f w_6 => ∃ (col_7 : Col) (k_8 : Int) (n_5 : Nat), n_5 = n ∧ m_credenceref14_twice_L2 N p0_parents i_4 (m_credenceref14_twice_L1 N p0_parents n_1) n_5 k_8 = some r ∧ St w0 (col0 col) col_7 w_6 ∧ Sl (Rep.slice (Rep.int .i64)) col_7 w_6 a0 cap0 p0_parents ∧ f 0 = (.slice a0 p0_parents.length cap0) ∧ f 3 = (.int .i64 i_4) ∧ f 4 = (.int .i64 k_8) ∧ f 1000000 = (enc [])) N ⟨col_3, 0, N, rfl, hm, hst, h0, rfl, rfl, rfl, rfl⟩ ?_
      clear hm; intro n f w_6 hI
      obtain ⟨col_7, k_8, n_5, hn, hm, hst, h0, hs0, hs3, hs4, hs1000000⟩ := hI
      subst hn
      refine .ld (d := 0) (v := (.slice a0 p0_parents.length cap0)) hs0 ?_
      refine .ld (d := 3) (v := (.int .i64 i_4)) hs3 ?_
      refine .ld (d := 4) (v := (.int .i64 k_8)) hs4 ?_
      refine .ld (d := 1000000) (v := (enc [])) hs1000000 ?_
      clear hs0 hs3 hs4 hs1000000
      cases n_5 with
      | zero => rw [m_credenceref14_twice_L2.eq_1] at hm; cases hm
      | succ n_5 =>
        rw [m_credenceref14_twice_L2.eq_2] at hm
        refine wseq ?_
        refine wseq ?_
        refine wregion ?_
        refine lv (v := (.int .i64 k_8)) rfl rfl (r_move rfl) ?_
        refine lv (v := (.slice a0 p0_parents.length cap0)) rfl rfl (r_move rfl) ?_
        refine lv (v := (.int .i64 i_4)) rfl rfl (r_move rfl) ?_
        obtain ⟨e_9, hj_10, hm⟩ := bind_some hm
        refine lv (v := (sptr a0 (Int.toNat i_4 * 1))) rfl rfl (r_idx Try.underlying22 Try.sizeOf31 rfl rfl (at?_some hj_10).1 (at?_some hj_10).2.1 (h0.addr hj_10)) ?_
        obtain ⟨_, hr_11, hA_12⟩ := h0.atN hj_10
        obtain ⟨⟨a_13, cap_14, rfl, h_15⟩, _⟩ := hr_11
        refine lv (v := (.slice a_13 e_9.length cap_14)) rfl rfl (r_ld Try.isAgg31 rfl hA_12.one) ?_
        refine lv (v := (.int .i64 (e_9.length : Int))) rfl rfl (r_len Try.underlying31 rfl) ?_
        refine lv (v := (.bool (decide (k_8 < (e_9.length : Int))))) rfl rfl (r_lss k_8 (e_9.length : Int) rfl rfl) ?_
        refine lnil ?_
        refine wcond (decide (k_8 < (e_9.length : Int))) rfl (fun hb => ?_) (fun hb => ?_)
        · rw [if_pos hb] at hm
          clear hb
          refine wskip ?_
          refine wseq ?_
          refine wblock ?_
          refine wseq ?_
          refine wquiet (col := col_7) (by kernel_rfl) (by kernel_rfl) ?_
          refine qv (v := (.slice a0 p0_parents.length cap0)) rfl (fun _ hC => r_move rfl) ?_
          refine qv (v := (.int .i64 i_4)) rfl (fun _ hC => r_move rfl) ?_
          refine qv (v := (sptr a0 (Int.toNat i_4 * 1))) rfl (fun _ hC => r_idx Try.underlying22 Try.sizeOf31 rfl rfl (at?_some hj_10).1 (at?_some hj_10).2.1 (h0.addr hj_10)) ?_
          obtain ⟨_, hr_16, hA_17⟩ := h0.atN hj_10
          obtain ⟨⟨a_18, cap_19, rfl, h_20⟩, _⟩ := hr_16
          refine qv (v := (.slice a_18 e_9.length cap_19)) rfl (fun _ hC => r_ld Try.isAgg31 rfl (hA_17.one.gr (Grow.of_below (col := col_7) hC.below))) ?_
          refine qv (v := (.int .i64 k_8)) rfl (fun _ hC => r_move rfl) ?_
          obtain ⟨hb_21, hm⟩ := chk_some hm
          refine qv (v := .slice a_18 (Int.toNat k_8) cap_19) rfl (fun _ hC => r_sliceH Try.underlying31 Try.sizeOf3 rfl rfl hb_21.1 (by have := h_20.1.2; have := hb_21.2; omega)) ?_
          refine .ld (d := 25) (v := (.slice a_18 ((e_9.take (Int.toNat k_8)).length) cap_19)) (congrArg (fun n => Value.slice a_18 n cap_19) (List.length_take_of_le (show (Int.toNat k_8) ≤ e_9.length by have := hb_21.2; omega)).symm) ?_
          refine qv (v := (.slice a0 p0_parents.length cap0)) rfl (fun _ hC => r_move rfl) ?_
          refine qv (v := (.int .i64 i_4)) rfl (fun _ hC => r_move rfl) ?_
          refine qv (v := (sptr a0 (Int.toNat i_4 * 1))) rfl (fun _ hC => r_idx Try.underlying22 Try.sizeOf31 rfl rfl (at?_some hj_10).1 (at?_some hj_10).2.1 (h0.addr hj_10)) ?_
          obtain ⟨_, hr_22, hA_23⟩ := h0.atN hj_10
          obtain ⟨⟨a_24, cap_25, rfl, h_26⟩, _⟩ := hr_22
          refine qv (v := (.slice a_24 e_9.length cap_25)) rfl (fun _ hC => r_ld Try.isAgg31 rfl (hA_23.one.gr (Grow.of_below (col := col_7) hC.below))) ?_
          refine qv (v := (.int .i64 k_8)) rfl (fun _ hC => r_move rfl) ?_
          obtain ⟨e_27, hj_28, hm⟩ := bind_some hm
          refine qv (v := (sptr a_24 (Int.toNat k_8 * 1))) rfl (fun _ hC => r_idx Try.underlying31 Try.sizeOf3 rfl rfl (at?_some hj_28).1 (at?_some hj_28).2.1 (h_26.addr hj_28)) ?_
          refine qv (v := (.int .i64 e_27)) rfl (fun _ hC => r_ld Try.isAgg3 rfl ((h_26.gr (Grow.of_below (col := col_7) hC.below)).atInt hj_28)) ?_
          obtain ⟨r_29, hr_30, hm⟩ := bind_some hm
          refine qc (v := (.bool r_29)) rfl (fun _ hC => ⟨_, _, r_call2 Try.call46 rfl rfl, (c_credenceref14_Has N col_7 _ a_18 cap_19 (e_9.take (Int.toNat k_8)) e_27 ((h_20.take (Int.toNat k_8)).gr (Grow.of_below (col := col_7) hC.below)) r_29 hr_30).mono fun _ _ h => ⟨h.1, hC.trans (.of_below h.2)⟩⟩) ?_
          refine qnil ?_
          intro w_31 hC
          replace hC : Grow col_7 w_6 col_7 w_31 := .of_below hC.below
          replace h0 := h0.gr hC
          replace hst := hst.grow hC
          refine wcond (r_29) rfl (fun hb => ?_) (fun hb => ?_)
          · rw [if_pos hb] at hm
            clear hb
            refine wseq ?_
            refine wregion ?_
            refine lv (v := (.bool true)) rfl rfl (r_assign rfl) ?_
            refine lnil ?_
            refine wret ?_
            cases hm
            exact ⟨rfl, rfl, hst.below⟩
          · rw [if_neg (by rw [hb]; decide)] at hm
            clear hb
            refine wskip ?_
            refine wregion ?_
            refine lv (v := (.int .i64 k_8)) rfl rfl (r_move rfl) ?_
            refine lv (v := (.int .i64 (IntKind.i64.wrap (k_8 + 1)))) rfl rfl (r_add k_8 1 rfl rfl) ?_
            refine lv (v := (.int .i64 (IntKind.i64.wrap (k_8 + 1)))) rfl rfl (r_assign rfl) ?_
            refine lnil ?_
            exact ⟨n_5, by omega, ⟨col_7, (IntKind.i64.wrap (k_8 + 1)), n_5, rfl, hm, hst, h0, rfl, rfl, rfl, rfl⟩⟩
        · rw [if_neg (by rw [hb]; decide)] at hm
          clear hb
          refine wexit (inB_hit ?_)
          refine wregion ?_
          refine lv (v := (.int .i64 i_4)) rfl rfl (r_move rfl) ?_
          refine lv (v := (.int .i64 (IntKind.i64.wrap (i_4 + 1)))) rfl rfl (r_add i_4 1 rfl rfl) ?_
          refine lv (v := (.int .i64 (IntKind.i64.wrap (i_4 + 1)))) rfl rfl (r_assign rfl) ?_
          refine lnil ?_
          exact ⟨n_1, by omega, ⟨col_7, (IntKind.i64.wrap (i_4 + 1)), n_1, rfl, hm, hst, h0, rfl, rfl, rfl⟩⟩
    · rw [if_neg (by rw [hb]; decide)] at hm
      clear hb
      refine wexit (inB_hit ?_)
      refine wseq ?_
      refine wregion ?_
      refine lv (v := (.bool false)) rfl rfl (r_assign rfl) ?_
      refine lnil ?_
      refine wret ?_
      cases hm
      exact ⟨rfl, rfl, hst.below⟩




def m_credencelaw14_many_J2 (v_20 : Bool) : Option Bool :=
  some v_20

def m_credencelaw14_many_J1 (p0_parents : (List (List Int))) (n_4 : Int) (i_5 : Int) (kk_L1 : (Int → Int → Option Bool)) (v_9 : Bool) : Option Bool :=
  if v_9 = true then ((at? p0_parents i_5).bind fun e_10 => kk_L1 (IntKind.i64.wrap (n_4 + (e_10.length : Int))) (IntKind.i64.wrap (i_5 + 1))) else (if (decide (200 < (p0_parents.length : Int))) = true then (m_credencelaw14_many_J2 true) else (m_credencelaw14_many_J2 (decide (2000 < n_4))))

def m_credencelaw14_many_L1 (N : Nat) (p0_parents : (List (List Int))) : Nat → Int → Int → Option Bool
  | 0, _, _ => none
  | n_1 + 1, n_4, i_5 => if (decide (i_5 < (p0_parents.length : Int))) = true then (m_credencelaw14_many_J1 p0_parents n_4 i_5 (m_credencelaw14_many_L1 N p0_parents n_1) (decide (i_5 ≤ 200))) else (m_credencelaw14_many_J1 p0_parents n_4 i_5 (m_credencelaw14_many_L1 N p0_parents n_1) false)

def m_credencelaw14_many (N : Nat) (p0_parents : (List (List Int))) : Option Bool :=
  m_credencelaw14_many_L1 N p0_parents N 0 0

set_option maxRecDepth 100000 in
theorem c_credencelaw14_many (N : Nat) (col : Col) (w0 : World) (a0 : Option Addr) (cap0 : Nat) (p0_parents : (List (List Int))) (h0 : Sl (Rep.slice (Rep.int .i64)) col w0 a0 cap0 p0_parents) (r : Bool) (hm : m_credencelaw14_many N p0_parents = some r) :
    Calls Try.prog 8 #[(.slice a0 p0_parents.length cap0)] w0 (fun e w' => e = .returned ((.bool r)) ∧ Below w0.heap.size w0 w') := by
  refine calls_of1 2 (m := 29) (args := [(.slice a0 p0_parents.length cap0)]) Try.func8 rfl rfl rfl rfl rfl ?_
  rw [m_credencelaw14_many.eq_1] at hm
  have hst := St.start col w0
  replace h0 := h0.keep (Stay.start col w0)
  refine wseq ?_
  refine wregion ?_
  refine lv (v := (.bool false)) rfl rfl (r_assign rfl) ?_
  refine lnil ?_
  refine wseq ?_
  refine wregion ?_
  refine lv (v := (.int .i64 0)) rfl rfl (r_assign rfl) ?_
  refine lnil ?_
  refine wseq ?_
  refine wseq ?_
  refine wregion ?_
  refine lv (v := (.int .i64 0)) rfl rfl (r_assign rfl) ?_
  refine lnil ?_
  refine wblock ?_
  refine wloop (fun n f w_2 => ∃ (col_3 : Col) (n_4 : Int) (i_5 : Int) (n_1 : Nat), n_1 = n ∧ m_credencelaw14_many_L1 N p0_parents n_1 n_4 i_5 = some r ∧ St w0 (col0 col) col_3 w_2 ∧ Sl (Rep.slice (Rep.int .i64)) col_3 w_2 a0 cap0 p0_parents ∧ f 0 = (.slice a0 p0_parents.length cap0) ∧ f 3 = (.int .i64 n_4) ∧ f 4 = (.int .i64 i_5) ∧ f 1000000 = (enc [])) N ⟨(col0 col), 0, 0, N, rfl, hm, hst, h0, rfl, rfl, rfl, rfl⟩ ?_
  clear hm; intro n f w_2 hI
  obtain ⟨col_3, n_4, i_5, n_1, hn, hm, hst, h0, hs0, hs3, hs4, hs1000000⟩ := hI
  subst hn
  refine .ld (d := 0) (v := (.slice a0 p0_parents.length cap0)) hs0 ?_
  refine .ld (d := 3) (v := (.int .i64 n_4)) hs3 ?_
  refine .ld (d := 4) (v := (.int .i64 i_5)) hs4 ?_
  refine .ld (d := 1000000) (v := (enc [])) hs1000000 ?_
  clear hs0 hs3 hs4 hs1000000
  cases n_1 with
  | zero => rw [m_credencelaw14_many_L1.eq_1] at hm; cases hm
  | succ n_1 =>
    rw [m_credencelaw14_many_L1.eq_2] at hm
    refine wseq ?_
    refine wseq ?_
    refine Wp.cut (fun f w_7 => ∃ (col_8 : Col) (v_9 : Bool), m_credencelaw14_many_J1 p0_parents n_4 i_5 (m_credencelaw14_many_L1 N p0_parents n_1) v_9 = some r ∧ St w0 (col0 col) col_8 w_7 ∧ Sl (Rep.slice (Rep.int .i64)) col_8 w_7 a0 cap0 p0_parents ∧ f 0 = (.slice a0 p0_parents.length cap0) ∧ f 12 = (.bool v_9) ∧ f 3 = (.int .i64 n_4) ∧ f 4 = (.int .i64 i_5) ∧ f 1000000 = (enc [])) ?_ ?_
    · intro f w_7 hJ
      obtain ⟨col_8, v_9, hm, hst, h0, hs0, hs12, hs3, hs4, hs1000000⟩ := hJ
      rw [m_credencelaw14_many_J1.eq_1] at hm
      refine .ld (d := 0) (v := (.slice a0 p0_parents.length cap0)) hs0 ?_
      refine .ld (d := 12) (v := (.bool v_9)) hs12 ?_
      refine .ld (d := 3) (v := (.int .i64 n_4)) hs3 ?_
      refine .ld (d := 4) (v := (.int .i64 i_5)) hs4 ?_
      refine .ld (d := 1000000) (v := (enc [])) hs1000000 ?_
      clear hs0 hs12 hs3 hs4 hs1000000
      refine wcond (v_9) rfl (fun hb => ?_) (fun hb => ?_)
      · rw [if_pos hb] at hm
        clear hb
        refine wskip ?_
        refine wseq ?_
        refine wblock ?_
        refine wregion ?_
        refine lv (v := (.int .i64 n_4)) rfl rfl (r_move rfl) ?_
        refine lv (v := (.slice a0 p0_parents.length cap0)) rfl rfl (r_move rfl) ?_
        refine lv (v := (.int .i64 i_5)) rfl rfl (r_move rfl) ?_
        obtain ⟨e_10, hj_11, hm⟩ := bind_some hm
        refine lv (v := (sptr a0 (Int.toNat i_5 * 1))) rfl rfl (r_idx Try.underlying22 Try.sizeOf31 rfl rfl (at?_some hj_11).1 (at?_some hj_11).2.1 (h0.addr hj_11)) ?_
        obtain ⟨_, hr_12, hA_13⟩ := h0.atN hj_11
        obtain ⟨⟨a_14, cap_15, rfl, h_16⟩, _⟩ := hr_12
        refine lv (v := (.slice a_14 e_10.length cap_15)) rfl rfl (r_ld Try.isAgg31 rfl hA_13.one) ?_
        refine lv (v := (.int .i64 (e_10.length : Int))) rfl rfl (r_len Try.underlying31 rfl) ?_
        refine lv (v := (.int .i64 (IntKind.i64.wrap (n_4 + (e_10.length : Int))))) rfl rfl (r_add n_4 (e_10.length : Int) rfl rfl) ?_
        refine lv (v := (.int .i64 (IntKind.i64.wrap (n_4 + (e_10.length : Int))))) rfl rfl (r_assign rfl) ?_
        refine lnil ?_
        refine wregion ?_
        refine lv (v := (.int .i64 i_5)) rfl rfl (r_move rfl) ?_
        refine lv (v := (.int .i64 (IntKind.i64.wrap (i_5 + 1)))) rfl rfl (r_add i_5 1 rfl rfl) ?_
        refine lv (v := (.int .i64 (IntKind.i64.wrap (i_5 + 1)))) rfl rfl (r_assign rfl) ?_
        refine lnil ?_
        exact ⟨n_1, by omega, ⟨col_8, (IntKind.i64.wrap (n_4 + (e_10.length : Int))), (IntKind.i64.wrap (i_5 + 1)), n_1, rfl, hm, hst, h0, rfl, rfl, rfl, rfl⟩⟩
      · rw [if_neg (by rw [hb]; decide)] at hm
        clear hb
        refine wexit (inB_hit ?_)
        refine wseq ?_
        refine Wp.cut (fun f w_18 => ∃ (col_19 : Col) (v_20 : Bool), m_credencelaw14_many_J2 v_20 = some r ∧ St w0 (col0 col) col_19 w_18 ∧ f 2 = (.bool v_20) ∧ f 1000000 = (enc [])) ?_ ?_
        · intro f w_18 hJ
          obtain ⟨col_19, v_20, hm, hst, hs2, hs1000000⟩ := hJ
          rw [m_credencelaw14_many_J2.eq_1] at hm
          refine .ld (d := 2) (v := (.bool v_20)) hs2 ?_
          refine .ld (d := 1000000) (v := (enc [])) hs1000000 ?_
          clear hs2 hs1000000
          refine wret ?_
          cases hm
          exact ⟨rfl, rfl, hst.below⟩
        · refine wregion ?_
          refine lv (v := (.slice a0 p0_parents.length cap0)) rfl rfl (r_move rfl) ?_
          refine lv (v := (.int .i64 (p0_parents.length : Int))) rfl rfl (r_len Try.underlying22 rfl) ?_
          refine lv (v := (.bool (decide (200 < (p0_parents.length : Int))))) rfl rfl (r_gtr (p0_parents.length : Int) 200 rfl rfl) ?_
          refine lv (v := (.bool (decide (200 < (p0_parents.length : Int))))) rfl rfl (r_move rfl) ?_
          by_cases hg_21 : (decide (200 < (p0_parents.length : Int))) = true
          · rw [if_pos hg_21] at hm
            refine lp (b := decide (200 < (p0_parents.length : Int))) 25 rfl rfl rfl rfl (by rw [hg_21]; rfl) ?_
            refine lp (b := decide (200 < (p0_parents.length : Int))) 25 rfl rfl rfl rfl (by rw [hg_21]; rfl) ?_
            refine lv (v := (.bool true)) rfl rfl (r_pickT (congrArg Value.bool hg_21) rfl) ?_
            refine lv (v := (.bool true)) rfl rfl (r_assign rfl) ?_
            refine lnil ?_
            exact ⟨col_8, true, hm, hst, rfl, rfl⟩
          · rw [if_neg hg_21] at hm
            replace hg_21 := Bool.eq_false_iff.2 hg_21
            refine lg (b := decide (200 < (p0_parents.length : Int))) 25 rfl rfl rfl (by rw [hg_21]; rfl) ?_
            refine lv (v := (.int .i64 n_4)) rfl rfl (r_move rfl) ?_
            refine lg (b := decide (200 < (p0_parents.length : Int))) 25 rfl rfl rfl (by rw [hg_21]; rfl) ?_
            refine lv (v := (.bool (decide (2000 < n_4)))) rfl rfl (r_gtr n_4 2000 rfl rfl) ?_
            refine lv (v := (.bool (decide (2000 < n_4)))) rfl rfl (r_pickF (congrArg Value.bool hg_21) rfl) ?_
            refine lv (v := (.bool (decide (2000 < n_4)))) rfl rfl (r_assign rfl) ?_
            refine lnil ?_
            exact ⟨col_8, (decide (2000 < n_4)), hm, hst, rfl, rfl⟩
    · refine wregion ?_
      refine lv (v := (.int .i64 i_5)) rfl rfl (r_move rfl) ?_
      refine lv (v := (.slice a0 p0_parents.length cap0)) rfl rfl (r_move rfl) ?_
      refine lv (v := (.int .i64 (p0_parents.length : Int))) rfl rfl (r_len Try.underlying22 rfl) ?_
      refine lv (v := (.bool (decide (i_5 < (p0_parents.length : Int))))) rfl rfl (r_lss i_5 (p0_parents.length : Int) rfl rfl) ?_
      refine lv (v := (.bool (decide (i_5 < (p0_parents.length : Int))))) rfl rfl (r_move rfl) ?_
      by_cases hg_22 : (decide (i_5 < (p0_parents.length : Int))) = true
      · rw [if_pos hg_22] at hm
        refine lg (b := decide (i_5 < (p0_parents.length : Int))) 9 rfl rfl rfl (by rw [hg_22]; rfl) ?_
        refine lv (v := (.int .i64 i_5)) rfl rfl (r_move rfl) ?_
        refine lg (b := decide (i_5 < (p0_parents.length : Int))) 9 rfl rfl rfl (by rw [hg_22]; rfl) ?_
        refine lv (v := (.bool (decide (i_5 ≤ 200)))) rfl rfl (r_leq i_5 200 rfl rfl) ?_
        refine lv (v := (.bool (decide (i_5 ≤ 200)))) rfl rfl (r_pickT (congrArg Value.bool hg_22) rfl) ?_
        refine lnil ?_
        exact ⟨col_3, (decide (i_5 ≤ 200)), hm, hst, h0, rfl, rfl, rfl, rfl, rfl⟩
      · rw [if_neg hg_22] at hm
        replace hg_22 := Bool.eq_false_iff.2 hg_22
        refine lp (b := decide (i_5 < (p0_parents.length : Int))) 9 rfl rfl rfl rfl (by rw [hg_22]; rfl) ?_
        refine lp (b := decide (i_5 < (p0_parents.length : Int))) 9 rfl rfl rfl rfl (by rw [hg_22]; rfl) ?_
        refine lv (v := (.bool false)) rfl rfl (r_pickF (congrArg Value.bool hg_22) rfl) ?_
        refine lnil ?_
        exact ⟨col_3, false, hm, hst, h0, rfl, rfl, rfl, rfl, rfl⟩



theorem el3_26 : ElemOk Try.prog 3 1 8 := ⟨Try.t3, _, rfl, rfl, rfl, rfl, rfl⟩

def m_credencelaw14_long (p0_l : (List Int)) : Option (List Int) :=
  chk ((([] : List Int).length + p0_l.length) * 8 ≤ 140737488355328 ∧ ([] : List Int).length + p0_l.length ≤ maxLen) (chk (((([] : List Int) ++ p0_l).length + [(-90), (-91), (-92), (-93), (-94), (-95)].length) * 8 ≤ 140737488355328 ∧ (([] : List Int) ++ p0_l).length + [(-90), (-91), (-92), (-93), (-94), (-95)].length ≤ maxLen) (some ((([] : List Int) ++ p0_l) ++ [(-90), (-91), (-92), (-93), (-94), (-95)])))

set_option maxRecDepth 100000 in
theorem c_credencelaw14_long (c1 : Nat) (col : Col) (w0 : World) (a0 : Option Addr) (cap0 : Nat) (p0_l : (List Int)) (h0 : Sl (Rep.int .i64) col w0 a0 cap0 p0_l) (r : (List Int)) (hm : m_credencelaw14_long p0_l = some r) :
    Calls Try.prog 26 #[(.slice a0 p0_l.length cap0)] w0 (fun e w' => ∃ (col' : Col) (ra1 : Option Addr) (rc2 : Nat), e = .returned ((.slice ra1 r.length rc2)) ∧ Grow col w0 col' w' ∧ Own (Rep.int .i64) 3 c1 col' w' ra1 rc2 r) := by
  refine calls_of1 2 (m := 10) (args := [(.slice a0 p0_l.length cap0)]) Try.func26 rfl rfl rfl rfl rfl ?_
  rw [m_credencelaw14_long.eq_1] at hm
  have hst := St.start col w0
  replace h0 := h0.keep (Stay.start col w0)
  refine wseq ?_
  refine wregion ?_
  refine lv (v := (.slice none (([] : List Int).length) 0)) rfl rfl (r_assign rfl) ?_
  refine lnil ?_
  refine wseq ?_
  refine wregion ?_
  refine lv (v := (.slice none (([] : List Int).length) 0)) rfl rfl (r_assign rfl) ?_
  refine lnil ?_
  refine wseq ?_
  refine wregion ?_
  refine lv (v := (.slice none (([] : List Int).length) 0)) rfl rfl (r_move rfl) ?_
  refine lv (v := (.slice a0 p0_l.length cap0)) rfl rfl (r_move rfl) ?_
  obtain ⟨hb_1, hm⟩ := chk_some hm
  refine l_appendM (col := (col0 col)) (w := w0) (r := (Rep.int .i64)) (c := 1) (c2 := 1) (xs := ([] : List Int)) (ys := p0_l) Own.nil h0.srcC rfl Try.underlying31 el3_26 rfl rfl rfl hb_1.1 hb_1.2 (by decide) ?_
  intro a_2 cap_3 w_4 col_5 hk_6 h_7
  replace h0 := h0.kpp hk_6 rfl
  replace hst := hst.kpp hk_6 rfl rfl
  refine lv (v := (.slice a_2 ((([] : List Int) ++ p0_l).length) cap_3)) rfl rfl (r_assign rfl) ?_
  refine lnil ?_
  refine wseq ?_
  refine wregion ?_
  refine lv (v := (.slice a_2 ((([] : List Int) ++ p0_l).length) cap_3)) rfl rfl (r_move rfl) ?_
  refine l_lit (col := col_5) (r := (Rep.int .i64)) (xs := [(-90), (-91), (-92), (-93), (-94), (-95)]) [(.int .i64 (-90)), (.int .i64 (-91)), (.int .i64 (-92)), (.int .i64 (-93)), (.int .i64 (-94)), (.int .i64 (-95))] 2 rfl Try.underlying31 el3_26 rfl rfl rfl rfl rfl rfl (by intro v hv; simp only [List.mem_cons, List.not_mem_nil, or_false] at hv; rcases hv with rfl | rfl | rfl | rfl | rfl | rfl <;> rfl) (RowsH.ofF (Rows.consF (r := (Rep.int .i64)) (x := (-90)) (cs := [(.int .i64 (-90))]) (rd_int .i64 (-90)) (Rows.consF (r := (Rep.int .i64)) (x := (-91)) (cs := [(.int .i64 (-91))]) (rd_int .i64 (-91)) (Rows.consF (r := (Rep.int .i64)) (x := (-92)) (cs := [(.int .i64 (-92))]) (rd_int .i64 (-92)) (Rows.consF (r := (Rep.int .i64)) (x := (-93)) (cs := [(.int .i64 (-93))]) (rd_int .i64 (-93)) (Rows.consF (r := (Rep.int .i64)) (x := (-94)) (cs := [(.int .i64 (-94))]) (rd_int .i64 (-94)) (Rows.consF (r := (Rep.int .i64)) (x := (-95)) (cs := [(.int .i64 (-95))]) (rd_int .i64 (-95)) Rows.nil0))))))) ?_
  intro a_8 w_9 col_10 hg_11 h_12
  replace h_7 := h_7.gr hg_11
  replace hst := hst.grow hg_11
  obtain ⟨hb_13, hm⟩ := chk_some hm
  refine l_appendM (col := col_10) (w := w_9) (r := (Rep.int .i64)) (c := 1) (c2 := 1) (xs := ([] : List Int) ++ p0_l) (ys := [(-90), (-91), (-92), (-93), (-94), (-95)]) h_7 (h_12.srcN (NB.int (k := .i64))) rfl Try.underlying31 el3_26 rfl rfl rfl hb_13.1 hb_13.2 (by decide) ?_
  intro a_14 cap_15 w_16 col_17 hk_18 h_19
  replace h_12 := h_12.kpp hk_18 rfl rfl
  replace hst := hst.kpp hk_18 rfl rfl
  clear h_7
  refine lv (v := (.slice a_14 (((([] : List Int) ++ p0_l) ++ [(-90), (-91), (-92), (-93), (-94), (-95)]).length) cap_15)) rfl rfl (r_assign rfl) ?_
  refine lnil ?_
  refine wret ?_
  cases hm
  exact ⟨rfl, colF w0.heap.size col col_17 (fun n => bif Nat.beq n 1 then c1 else 0), a_14, cap_15, rfl, hst.fin (fun n => bif Nat.beq n 1 then c1 else 0), hst.finOwn (g := (fun n => bif Nat.beq n 1 then c1 else 0)) rfl h_19 (by decide) (by decide) rfl⟩




theorem Has_L1 (N : Nat) (l : List Int) (x : Int) (hl : l.length ≤ 1048576) : ∀ (n k : Nat), l.length < n + k → k ≤ l.length → m_credenceref14_Has_L1 N l x n (k : Int) = some (decide (x ∈ l.drop k))
  | 0, k, h, hk => by omega
  | n + 1, k, h, hk => by
    rw [m_credenceref14_Has_L1.eq_2]
    by_cases hlt : k < l.length
    · rw [if_pos (by simpa using hlt), at?_lt hlt, Option.bind_some, wS (by omega), Has_L1 N l x hl n (k + 1) (by omega) (by omega), List.drop_eq_getElem_cons hlt]
      by_cases he : l[k] = x
      · rw [if_pos (by simpa using he), decide_eq_true (by rw [he]; exact List.mem_cons_self)]
      · rw [if_neg (by simpa using he)]
        exact congrArg some (decide_eq_decide.2 ⟨fun h => List.mem_cons_of_mem _ h, fun h => (List.mem_cons.1 h).resolve_left (Ne.symm he)⟩)
    · rw [if_neg (by simpa using hlt), List.drop_eq_nil_of_le (by omega)]; simp
theorem Has_eq {N : Nat} {l : List Int} {x : Int} (hl : l.length ≤ 1048576) (hN : 1048576 < N) : m_credenceref14_Has N l x = some (decide (x ∈ l)) := by
  rw [m_credenceref14_Has]; simpa using Has_L1 N l x hl N 0 (by omega) (by omega)

theorem Same_L1 (N : Nat) (a b : List Int) (hab : a.length = b.length) (hl : a.length ≤ 1048576) : ∀ (n k : Nat), a.length < n + k → k ≤ a.length → m_credenceref14_Same_L1 N a b n (k : Int) = some (decide (a.drop k = b.drop k))
  | 0, k, h, hk => by omega
  | n + 1, k, h, hk => by
    rw [m_credenceref14_Same_L1.eq_2]
    by_cases hlt : k < a.length
    · have hltb : k < b.length := by omega
      rw [if_pos (by simpa using hlt), at?_lt hlt, at?_lt hltb, Option.bind_some, Option.bind_some, wS (by omega), Same_L1 N a b hab hl n (k + 1) (by omega) (by omega), List.drop_eq_getElem_cons hlt, List.drop_eq_getElem_cons hltb]
      by_cases he : a[k] = b[k]
      · rw [if_neg (by simpa using he), he]
        exact congrArg some (decide_eq_decide.2 ⟨fun h => by rw [h], fun h => (List.cons.inj h).2⟩)
      · rw [if_pos (by simpa using he), decide_eq_false fun h => he (List.cons.inj h).1]
    · rw [if_neg (by simpa using hlt), List.drop_eq_nil_of_le (by omega), List.drop_eq_nil_of_le (by omega)]; simp
theorem Same_eq {N : Nat} {a b : List Int} (hl : a.length ≤ 1048576) (hN : 1048576 < N) : m_credenceref14_Same N a b = some (decide (a = b)) := by
  rw [m_credenceref14_Same]
  by_cases hab : a.length = b.length
  · rw [if_neg (by simp [hab])]
    simpa using Same_L1 N a b hab hl N 0 (by omega) (by omega)
  · rw [if_pos (by simp; omega)]
    rw [decide_eq_false (fun h => hab (by rw [h]))]

/-- All parents are points. -/
def insideB (m : Int) (P : List (List Int)) : Bool := P.all fun l => l.all fun p => decide (0 ≤ p ∧ p < m)
theorem inside_L2 (N : Nat) (P : List (List Int)) (i : Nat) (hi : i < P.length) (hP : P.length ≤ 1048576) (hl : P[i].length ≤ 1048576) (kk : Int → Option Bool) : ∀ (n k : Nat), P[i].length < n + k → k ≤ P[i].length →
    m_credenceref14_inside_L2 N P (i : Int) kk n (k : Int) = if (P[i].drop k).all (fun p => decide (0 ≤ p ∧ p < (P.length : Int))) then kk ((i + 1 : Nat) : Int) else some false
  | 0, k, h, hk => by omega
  | n + 1, k, h, hk => by
    rw [m_credenceref14_inside_L2.eq_2, at?_lt hi, Option.bind_some]
    by_cases hlt : k < P[i].length
    · rw [if_pos (by simpa using hlt), at?_lt hlt, Option.bind_some, m_credenceref14_inside_J1, m_credenceref14_inside_J1, wS (by omega), inside_L2 N P i hi hP hl kk n (k + 1) (by omega) (by omega), List.drop_eq_getElem_cons hlt]
      by_cases h1 : P[i][k] < 0
      · rw [if_pos (by simpa using h1), if_pos rfl, if_neg (fun h => by rw [List.all_cons, Bool.and_eq_true, decide_eq_true_eq] at h; omega)]
      · rw [if_neg (by simpa using h1)]
        by_cases h2 : (P.length : Int) ≤ P[i][k]
        · rw [if_pos (by simpa using h2), if_neg (fun h => by rw [List.all_cons, Bool.and_eq_true, decide_eq_true_eq] at h; omega)]
        · rw [if_neg (by simpa using h2)]
          simp only [List.all_cons, Bool.and_eq_true]
          have h3 : decide (0 ≤ P[i][k] ∧ P[i][k] < (P.length : Int)) = true := by simp; omega
          simp only [h3, true_and]
    · rw [if_neg (by simpa using hlt), List.drop_eq_nil_of_le (by omega), wS (by omega)]; simp
theorem inside_L1 (N : Nat) (P : List (List Int)) (hP : P.length ≤ 1048576) (hl : ∀ l ∈ P, l.length ≤ 1048576) (hN : 1048576 < N) : ∀ (n i : Nat), P.length < n + i → i ≤ P.length →
    m_credenceref14_inside_L1 N P n (i : Int) = some (insideB P.length (P.drop i))
  | 0, i, h, hi => by omega
  | n + 1, i, h, hi => by
    rw [m_credenceref14_inside_L1.eq_2]
    by_cases hlt : i < P.length
    · have h0 := inside_L2 N P i hlt hP (hl _ (List.getElem_mem hlt)) (m_credenceref14_inside_L1 N P n) N 0 (by have := hl _ (List.getElem_mem hlt); omega) (by omega)
      rw [if_pos (by simpa using hlt)]
      rw [show (0 : Int) = ((0 : Nat) : Int) from rfl, h0, inside_L1 N P hP hl hN n (i + 1) (by omega) (by omega), List.drop_eq_getElem_cons hlt]
      simp only [insideB, List.all_cons, List.drop_zero]
      by_cases h1 : (P[i].all fun p => decide (0 ≤ p ∧ p < (P.length : Int))) = true
      · rw [if_pos h1, h1, Bool.true_and]
      · rw [if_neg h1, Bool.eq_false_iff.2 h1, Bool.false_and]
    · rw [if_neg (by simpa using hlt), List.drop_eq_nil_of_le (by omega)]; rfl
theorem inside_eq {N : Nat} {P : List (List Int)} (hP : P.length ≤ 1048576) (hl : ∀ l ∈ P, l.length ≤ 1048576) (hN : 1048576 < N) : m_credenceref14_inside N P = some (insideB P.length P) := by
  rw [m_credenceref14_inside]; simpa using inside_L1 N P hP hl hN N 0 (by omega) (by omega)

/-- A point has a parent twice. -/
def twiceB (P : List (List Int)) : Bool := P.any fun l => !decide l.Nodup
theorem nodup_step (l : List Int) (k : Nat) (hk : k < l.length) : (l.take (k + 1)).Nodup ↔ (l.take k).Nodup ∧ l[k] ∉ l.take k := by
  rw [List.take_succ_eq_append_getElem hk, List.nodup_append]
  simp only [List.nodup_cons, List.not_mem_nil, not_false_eq_true, List.nodup_nil, and_self, List.mem_singleton, true_and]
  constructor
  · rintro ⟨h1, h2⟩; exact ⟨h1, fun h => h2 _ h _ rfl rfl⟩
  · rintro ⟨h1, h2⟩; exact ⟨h1, fun a ha b hb e => h2 (by rw [← hb, ← e]; exact ha)⟩
theorem twice_L2 (N : Nat) (P : List (List Int)) (i : Nat) (hi : i < P.length) (hP : P.length ≤ 1048576) (hl : P[i].length ≤ 1048576) (hN : 1048576 < N) (kk : Int → Option Bool) : ∀ (n k : Nat), P[i].length < n + k → k ≤ P[i].length → (P[i].take k).Nodup →
    m_credenceref14_twice_L2 N P (i : Int) kk n (k : Int) = if P[i].Nodup then kk ((i + 1 : Nat) : Int) else some true
  | 0, k, h, hk, _ => by omega
  | n + 1, k, h, hk, hnd => by
    rw [m_credenceref14_twice_L2.eq_2, at?_lt hi, Option.bind_some]
    by_cases hlt : k < P[i].length
    · rw [if_pos (by simpa using hlt), chk_pos (by omega), at?_lt hlt, Option.bind_some, Has_eq (by simp; omega) hN, Option.bind_some, Int.toNat_natCast]
      by_cases h1 : P[i][k] ∈ P[i].take k
      · rw [if_pos (by simpa using h1), if_neg]
        intro h2
        exact ((nodup_step _ k hlt).1 (h2.sublist (List.take_sublist _ _))).2 h1
      · rw [if_neg (by simpa using h1), wS (by omega)]
        exact twice_L2 N P i hi hP hl hN kk n (k + 1) (by omega) (by omega) ((nodup_step _ k hlt).2 ⟨hnd, h1⟩)
    · rw [if_neg (by simpa using hlt), wS (by omega)]
      rw [List.take_of_length_le (by omega)] at hnd
      rw [if_pos hnd]
theorem twice_L1 (N : Nat) (P : List (List Int)) (hP : P.length ≤ 1048576) (hl : ∀ l ∈ P, l.length ≤ 1048576) (hN : 1048576 < N) : ∀ (n i : Nat), P.length < n + i → i ≤ P.length →
    m_credenceref14_twice_L1 N P n (i : Int) = some (twiceB (P.drop i))
  | 0, i, h, hi => by omega
  | n + 1, i, h, hi => by
    rw [m_credenceref14_twice_L1.eq_2]
    by_cases hlt : i < P.length
    · have h0 := twice_L2 N P i hlt hP (hl _ (List.getElem_mem hlt)) hN (m_credenceref14_twice_L1 N P n) N 0 (by have := hl _ (List.getElem_mem hlt); omega) (by omega) (by simp)
      rw [if_pos (by simpa using hlt)]
      rw [show (0 : Int) = ((0 : Nat) : Int) from rfl, h0, twice_L1 N P hP hl hN n (i + 1) (by omega) (by omega), List.drop_eq_getElem_cons hlt]
      simp only [twiceB, List.any_cons]
      by_cases h1 : P[i].Nodup
      · rw [if_pos h1]; simp [h1]
      · rw [if_neg h1]; simp [h1]
    · rw [if_neg (by simpa using hlt), List.drop_eq_nil_of_le (by omega)]; rfl
theorem twice_eq {N : Nat} {P : List (List Int)} (hP : P.length ≤ 1048576) (hl : ∀ l ∈ P, l.length ≤ 1048576) (hN : 1048576 < N) : m_credenceref14_twice N P = some (twiceB P) := by
  rw [m_credenceref14_twice]; simpa using twice_L1 N P hP hl hN N 0 (by omega) (by omega)


theorem el3_10 : ElemOk Try.prog 3 1 8 := ⟨Try.t3, _, rfl, rfl, rfl, rfl, rfl⟩
theorem el31_10 : ElemOk Try.prog 31 1 24 := ⟨Try.t31, _, rfl, rfl, rfl, rfl, rfl⟩

def m_credencelaw14_lent_L1 (N : Nat) (p0_parents : (List (List Int))) : Nat → (List (List Int)) → (List (List Int)) → Int → Option ((Nat × (List (List Int))) × (List (List Int)))
  | 0, _, _, _ => none
  | n_1 + 1, full_4, l_8, i_12 => if (decide (i_12 < (p0_parents.length : Int))) = true then ((at? p0_parents i_12).bind fun e_13 => (m_credencelaw14_long e_13).bind fun r_20 => chk ((full_4.length + [r_20].length) * 24 ≤ 140737488355328 ∧ full_4.length + [r_20].length ≤ maxLen) (chk ((0 : Int) ≤ (e_13.length : Int) ∧ (e_13.length : Int) ≤ (r_20.length : Int)) (chk ((l_8.length + [r_20.take (Int.toNat (e_13.length : Int))].length) * 24 ≤ 140737488355328 ∧ l_8.length + [r_20.take (Int.toNat (e_13.length : Int))].length ≤ maxLen) ((m_credencelaw14_lent_L1 N p0_parents n_1) (full_4 ++ [r_20]) (l_8 ++ [r_20.take (Int.toNat (e_13.length : Int))]) (IntKind.i64.wrap (i_12 + 1)))))) else (chk ((l_8.length + [[(-77)]].length) * 24 ≤ 140737488355328 ∧ l_8.length + [[(-77)]].length ≤ maxLen) (chk ((0 : Int) ≤ (p0_parents.length : Int) ∧ (p0_parents.length : Int) ≤ ((l_8 ++ [[(-77)]]).length : Int)) (some (((Int.toNat (p0_parents.length : Int)), l_8 ++ [[(-77)]]), full_4))))

def m_credencelaw14_lent (N : Nat) (p0_parents : (List (List Int))) : Option ((Nat × (List (List Int))) × (List (List Int))) :=
  m_credencelaw14_lent_L1 N p0_parents N ([] : List (List Int)) ([] : List (List Int)) 0

theorem long_ne {l x : List Int} (h : m_credencelaw14_long l = some x) : x ≠ [] := by
  unfold m_credencelaw14_long at h
  obtain ⟨_, h⟩ := chk_some h
  obtain ⟨_, h⟩ := chk_some h
  cases h; simp

set_option maxRecDepth 100000 in
theorem c_credencelaw14_lent (N : Nat) (c1 : Nat) (col : Col) (w0 : World) (a0 : Option Addr) (cap0 : Nat) (p0_parents : (List (List Int))) (h0 : Sl (Rep.slice (Rep.int .i64)) col w0 a0 cap0 p0_parents) (r : ((Nat × (List (List Int))) × (List (List Int)))) (hm : m_credencelaw14_lent N p0_parents = some r) :
    Calls Try.prog 10 #[(.slice a0 p0_parents.length cap0)] w0 (fun e w' => ∃ (col' : Col) (ra1 : Option Addr) (rc2 : Nat) (ra4 : Option Addr) (rc5 : Nat), e = .returned (.tuple #[(.slice ra1 ((r.1.2.take r.1.1).length) rc2), (.slice ra4 r.2.length rc5)]) ∧ Grow col w0 col' w' ∧ Two (Rep.row 3 (Rep.int .i64)) 31 (Rep.row 3 (Rep.int .i64)) 31 c1 col' w' ra1 rc2 r.1.2 ra4 rc5 r.2) := by
  refine calls_of2 2 3 (m := 42) (args := [(.slice a0 p0_parents.length cap0)]) Try.func10 rfl rfl rfl rfl rfl ?_
  rw [m_credencelaw14_lent.eq_1] at hm
  have hst := St.start col w0
  replace h0 := h0.keep (Stay.start col w0)
  refine wseq ?_
  refine wregion ?_
  refine lv (v := (.slice none (([] : List (List Int)).length) 0)) rfl rfl (r_assign rfl) ?_
  refine lv (v := (.slice none (([] : List (List Int)).length) 0)) rfl rfl (r_assign rfl) ?_
  refine lnil ?_
  refine wseq ?_
  refine wregion ?_
  refine lv (v := (.slice none (([] : List (List Int)).length) 0)) rfl rfl (r_assign rfl) ?_
  refine lnil ?_
  refine wseq ?_
  refine wregion ?_
  refine lv (v := (.slice none (([] : List (List Int)).length) 0)) rfl rfl (r_assign rfl) ?_
  refine lnil ?_
  refine wseq ?_
  refine wseq ?_
  refine wregion ?_
  refine lv (v := (.int .i64 0)) rfl rfl (r_assign rfl) ?_
  refine lnil ?_
  refine wblock ?_
  refine wloop (fun n f w_2 => ∃ (col_3 : Col) (a_5 : Option Addr) (cap_6 : Nat) (Zf : List (List Int × Nat)) (a_9 : Option Addr) (cap_10 : Nat) (Zl : List (List Int × Nat)) (i_12 : Int) (n_1 : Nat), n_1 = n ∧ m_credencelaw14_lent_L1 N p0_parents n_1 (Zf.map (·.1)) (Zl.map (·.1)) i_12 = some r ∧ St w0 (col0 col) col_3 w_2 ∧ Sl (Rep.slice (Rep.int .i64)) col_3 w_2 a0 cap0 p0_parents ∧ Own (Rep.zrow 3 (Rep.int .i64)) 31 1 col_3 w_2 a_5 cap_6 Zf ∧ Own (Rep.zrow 3 (Rep.int .i64)) 31 2 col_3 w_2 a_9 cap_10 Zl ∧ (Zl.map (·.2) = Zf.map (·.2) ∧ (Zf.map (·.2)).Nodup ∧ ∀ x ∈ Zf.map (·.2), w0.heap.size ≤ x) ∧ f 0 = (.slice a0 p0_parents.length cap0) ∧ f 4 = (.slice a_5 Zf.length cap_6) ∧ f 5 = (.slice a_9 Zl.length cap_10) ∧ f 6 = (.int .i64 i_12) ∧ f 1000000 = (enc [])) N ⟨(col0 col), none, 0, ([] : List (List Int × Nat)), none, 0, ([] : List (List Int × Nat)), 0, N, rfl, hm, hst, h0, Own.nil, Own.nil, ⟨rfl, List.nodup_nil, by simp⟩, rfl, rfl, rfl, rfl, rfl⟩ ?_
  clear hm; intro n f w_2 hI
  obtain ⟨col_3, a_5, cap_6, Zf, a_9, cap_10, Zl, i_12, n_1, hn, hm, hst, h0, h_7, h_11, hZ, hs0, hs4, hs5, hs6, hs1000000⟩ := hI
  subst hn
  refine .ld (d := 0) (v := (.slice a0 p0_parents.length cap0)) hs0 ?_
  refine .ld (d := 4) (v := (.slice a_5 Zf.length cap_6)) hs4 ?_
  refine .ld (d := 5) (v := (.slice a_9 Zl.length cap_10)) hs5 ?_
  refine .ld (d := 6) (v := (.int .i64 i_12)) hs6 ?_
  refine .ld (d := 1000000) (v := (enc [])) hs1000000 ?_
  clear hs0 hs4 hs5 hs6 hs1000000
  have hnew : ∀ {col' : Col} {w' : World} (b c : Nat), St w0 (col0 col) col' w' → col' b = c → c ≠ 0 → c ≠ 999 → w0.heap.size ≤ b := fun {col' w'} b c hs hb h1 h2 => by
    rcases Nat.lt_or_ge b w0.heap.size with h | h
    · have := hs.oldc b h
      rw [hb] at this
      unfold col0 at this
      split at this <;> omega
    · exact h
  cases n_1 with
  | zero => rw [m_credencelaw14_lent_L1.eq_1] at hm; cases hm
  | succ n_1 =>
    rw [m_credencelaw14_lent_L1.eq_2] at hm
    refine wseq ?_
    refine wseq ?_
    refine wregion ?_
    refine lv (v := (.int .i64 i_12)) rfl rfl (r_move rfl) ?_
    refine lv (v := (.slice a0 p0_parents.length cap0)) rfl rfl (r_move rfl) ?_
    refine lv (v := (.int .i64 (p0_parents.length : Int))) rfl rfl (r_len Try.underlying22 rfl) ?_
    refine lv (v := (.bool (decide (i_12 < (p0_parents.length : Int))))) rfl rfl (r_lss i_12 (p0_parents.length : Int) rfl rfl) ?_
    refine lnil ?_
    refine wcond (decide (i_12 < (p0_parents.length : Int))) rfl (fun hb => ?_) (fun hb => ?_)
    · rw [if_pos hb] at hm
      clear hb
      refine wskip ?_
      refine wseq ?_
      refine wblock ?_
      refine wseq ?_
      refine wregion ?_
      refine lv (v := (.slice a0 p0_parents.length cap0)) rfl rfl (r_move rfl) ?_
      refine lv (v := (.int .i64 i_12)) rfl rfl (r_move rfl) ?_
      obtain ⟨e_13, hj_14, hm⟩ := bind_some hm
      refine lv (v := (sptr a0 (Int.toNat i_12 * 1))) rfl rfl (r_idx Try.underlying22 Try.sizeOf31 rfl rfl (at?_some hj_14).1 (at?_some hj_14).2.1 (h0.addr hj_14)) ?_
      obtain ⟨_, hr_15, hA_16⟩ := h0.atN hj_14
      obtain ⟨⟨a_17, cap_18, rfl, h_19⟩, _⟩ := hr_15
      refine lv (v := (.slice a_17 e_13.length cap_18)) rfl rfl (r_ld Try.isAgg31 rfl hA_16.one) ?_
      obtain ⟨r_20, hr_21, hm⟩ := bind_some hm
      refine lc rfl rfl (r_call1 Try.call26 rfl) (c_credencelaw14_long 3 col_3 _ a_17 cap_18 e_13 h_19 r_20 hr_21) ?_
      rintro _ w_25 ⟨col_27, ra_22, rc_23, rfl, hg_26, rh_24⟩
      refine ⟨_, rfl, ?_⟩
      replace h0 := h0.gr hg_26
      replace h_7 := h_7.gr hg_26
      replace h_11 := h_11.gr hg_26
      replace h_19 := h_19.gr hg_26
      replace hst := hst.grow hg_26
      refine lv (v := (.slice ra_22 r_20.length rc_23)) rfl rfl (r_assign rfl) ?_
      refine lnil ?_
      refine wseq ?_
      refine wregion ?_
      have hcap := rh_24.lecap
      obtain ⟨b, rfl, hcb, hrow⟩ := rh_24.zb (long_ne hr_21) NB.int
      have hbn := hnew b 3 hst hcb (by decide) (by decide)
      have hbf : b ∉ Zf.map (·.2) := fun hmem => by
        have := h_7.zcol b hmem
        rw [hcb] at this; exact absurd this (by decide)
      refine lv (v := (.slice a_5 Zf.length cap_6)) rfl rfl (r_move rfl) ?_
      refine lv (v := (.slice (some ⟨b, 0, none⟩) r_20.length rc_23)) rfl rfl (r_move rfl) ?_
      have hz := zrd (e := 3) (col := frC 3 col_27) (hrow.flatC (flat_int .i64)) (froz_self hcb)
      replace h0 := h0.froz 3
      replace h_11 := h_11.froz 3 (by decide)
      replace h_7 := h_7.froz 3 (by decide)
      replace hst := hst.froz 3 (by decide) (by decide)
      refine l_lit (col := (frC 3 col_27)) (r := (Rep.zrow 3 (Rep.int .i64))) (xs := [(r_20, b)]) [(.slice (some ⟨b, 0, none⟩) r_20.length rc_23)] 4 rfl Try.underlying22 el31_10 rfl rfl rfl rfl rfl rfl (by intro v hv; simp only [List.mem_cons, List.not_mem_nil, or_false] at hv; subst hv; rfl) (RowsH.ofF (Rows.consF (r := (Rep.zrow 3 (Rep.int .i64))) (x := (r_20, b)) (cs := [(.slice (some ⟨b, 0, none⟩) r_20.length rc_23)]) hz Rows.nil0)) ?_
      intro a_28 w_29 col_30 hg_31 h_32
      replace hz := (Rep.zrow 3 (Rep.int .i64)).keep hz ((hg_31.keep 1).stay (by decide)) (by simp)
      replace h0 := h0.gr hg_31
      replace h_11 := h_11.gr hg_31
      replace h_7 := h_7.gr hg_31
      replace hst := hst.grow hg_31
      obtain ⟨hb_33, hm⟩ := chk_some hm
      simp only [List.length_map] at hb_33
      refine l_appendM (col := col_30) (w := w_29) (r := (Rep.zrow 3 (Rep.int .i64))) (c := 1) (c2 := 1) (xs := Zf) (ys := [(r_20, b)]) h_7 (h_32.srcN NB.zrow) rfl Try.underlying22 el31_10 rfl rfl rfl hb_33.1 hb_33.2 (by decide) ?_
      intro a_34 cap_35 w_36 col_37 hk_38 h_39
      replace hz := (Rep.zrow 3 (Rep.int .i64)).keep hz (hk_38.stay rfl) (by simp)
      replace h0 := h0.kpp hk_38 rfl
      replace h_11 := h_11.kpp hk_38 rfl rfl
      replace hst := hst.kpp hk_38 rfl rfl
      clear h_7 h_32
      refine lv (v := (.slice a_34 ((Zf ++ [(r_20, b)]).length) cap_35)) rfl rfl (r_assign rfl) ?_
      refine lnil ?_
      refine wregion ?_
      refine lv (v := (.slice a_9 Zl.length cap_10)) rfl rfl (r_move rfl) ?_
      refine lv (v := (.slice (some ⟨b, 0, none⟩) r_20.length rc_23)) rfl rfl (r_move rfl) ?_
      refine lv (v := (.slice a0 p0_parents.length cap0)) rfl rfl (r_move rfl) ?_
      refine lv (v := (.int .i64 i_12)) rfl rfl (r_move rfl) ?_
      refine lv (v := (sptr a0 (Int.toNat i_12 * 1))) rfl rfl (r_idx Try.underlying22 Try.sizeOf31 rfl rfl (at?_some hj_14).1 (at?_some hj_14).2.1 (h0.addr hj_14)) ?_
      obtain ⟨_, hr_40, hA_41⟩ := h0.atN hj_14
      obtain ⟨⟨a_42, cap_43, rfl, h_44⟩, _⟩ := hr_40
      refine lv (v := (.slice a_42 e_13.length cap_43)) rfl rfl (r_ld Try.isAgg31 rfl hA_41.one) ?_
      refine lv (v := (.int .i64 (e_13.length : Int))) rfl rfl (r_len Try.underlying31 rfl) ?_
      obtain ⟨hb_45, hm⟩ := chk_some hm
      refine lv (v := .slice (some ⟨b, 0, none⟩) (Int.toNat (e_13.length : Int)) rc_23) rfl rfl (r_sliceH Try.underlying31 Try.sizeOf3 rfl rfl hb_45.1 (by have := hb_45.2; omega)) ?_
      refine .ld (d := 30) (v := (.slice (some ⟨b, 0, none⟩) ((r_20.take (Int.toNat (e_13.length : Int))).length) rc_23)) (congrArg (fun n => Value.slice (some ⟨b, 0, none⟩) n rc_23) (List.length_take_of_le (show (Int.toNat (e_13.length : Int)) ≤ r_20.length by have := hb_45.2; omega)).symm) ?_
      refine l_lit (col := col_37) (r := (Rep.zrow 3 (Rep.int .i64))) (xs := [(r_20.take (Int.toNat (e_13.length : Int)), b)]) [(.slice (some ⟨b, 0, none⟩) ((r_20.take (Int.toNat (e_13.length : Int))).length) rc_23)] 5 rfl Try.underlying22 el31_10 rfl rfl rfl rfl rfl rfl (by intro v hv; simp only [List.mem_cons, List.not_mem_nil, or_false] at hv; subst hv; rfl) (RowsH.ofF (Rows.consF (r := (Rep.zrow 3 (Rep.int .i64))) (x := (r_20.take (Int.toNat (e_13.length : Int)), b)) (cs := [(.slice (some ⟨b, 0, none⟩) ((r_20.take (Int.toNat (e_13.length : Int))).length) rc_23)]) (zrdTake NB.int hz _) Rows.nil0)) ?_
      intro a_46 w_47 col_48 hg_49 h_50
      replace h0 := h0.gr hg_49
      replace h_39 := h_39.gr hg_49
      replace h_11 := h_11.gr hg_49
      replace hst := hst.grow hg_49
      obtain ⟨hb_51, hm⟩ := chk_some hm
      simp only [List.length_map] at hb_51
      refine l_appendM (col := col_48) (w := w_47) (r := (Rep.zrow 3 (Rep.int .i64))) (c := 2) (c2 := 2) (xs := Zl) (ys := [(r_20.take (Int.toNat (e_13.length : Int)), b)]) h_11 (h_50.srcN NB.zrow) rfl Try.underlying22 el31_10 rfl rfl rfl hb_51.1 hb_51.2 (by decide) ?_
      intro a_52 cap_53 w_54 col_55 hk_56 h_57
      replace h0 := h0.kpp hk_56 rfl
      replace h_39 := h_39.kpp hk_56 rfl rfl
      replace hst := hst.kpp hk_56 rfl rfl
      clear h_11
      refine lv (v := (.slice a_52 ((Zl ++ [(r_20.take (Int.toNat (e_13.length : Int)), b)]).length) cap_53)) rfl rfl (r_assign rfl) ?_
      refine lnil ?_
      refine wregion ?_
      refine lv (v := (.int .i64 i_12)) rfl rfl (r_move rfl) ?_
      refine lv (v := (.int .i64 (IntKind.i64.wrap (i_12 + 1)))) rfl rfl (r_add i_12 1 rfl rfl) ?_
      refine lv (v := (.int .i64 (IntKind.i64.wrap (i_12 + 1)))) rfl rfl (r_assign rfl) ?_
      refine lnil ?_
      exact ⟨n_1, by omega, ⟨col_55, a_34, cap_35, (Zf ++ [(r_20, b)]), a_52, cap_53, (Zl ++ [(r_20.take (Int.toNat (e_13.length : Int)), b)]), (IntKind.i64.wrap (i_12 + 1)), n_1, rfl, by rw [List.map_append, List.map_append]; exact hm, hst, h0, h_39, h_57, ⟨by rw [List.map_append, List.map_append, hZ.1]; rfl, by
        rw [List.map_append, List.nodup_append]
        exact ⟨hZ.2.1, by simp, fun x hx y hy he => by simp only [List.map_cons, List.map_nil, List.mem_singleton] at hy; subst hy; subst he; exact hbf hx⟩, fun x hx => by
        rw [List.map_append, List.mem_append] at hx
        rcases hx with hx | hx
        · exact hZ.2.2 x hx
        · simp only [List.map_cons, List.map_nil, List.mem_singleton] at hx; subst hx; exact hbn⟩, rfl, rfl, rfl, rfl, rfl⟩⟩
    · rw [if_neg (by rw [hb]; decide)] at hm
      clear hb
      refine wexit (inB_hit ?_)
      refine wseq ?_
      refine wregion ?_
      refine lv (v := (.slice a_9 Zl.length cap_10)) rfl rfl (r_move rfl) ?_
      refine l_lit (col := col_3) (r := (Rep.int .i64)) (xs := [(-77)]) [(.int .i64 (-77))] 6 rfl Try.underlying31 el3_10 rfl rfl rfl rfl rfl rfl (by intro v hv; simp only [List.mem_cons, List.not_mem_nil, or_false] at hv; subst hv; rfl) (RowsH.ofF (Rows.consF (r := (Rep.int .i64)) (x := (-77)) (cs := [(.int .i64 (-77))]) (rd_int .i64 (-77)) Rows.nil0)) ?_
      intro a_58 w_59 col_60 hg_61 h_62
      replace h0 := h0.gr hg_61
      replace h_7 := h_7.gr hg_61
      replace h_11 := h_11.gr hg_61
      replace hst := hst.grow hg_61
      obtain ⟨b, rfl, hcb, hrow⟩ := h_62.zb (by simp) NB.int
      have hbn := hnew b 6 hst hcb (by decide) (by decide)
      have hbf : b ∉ Zf.map (·.2) := fun hmem => by
        have := h_7.zcol b hmem
        rw [hcb] at this; exact absurd this (by decide)
      have hz := zrd (e := 3) (col := frC 6 col_60) (hrow.flatC (flat_int .i64)) (froz_self hcb)
      replace h0 := h0.froz 6
      replace h_7 := h_7.froz 6 (by decide)
      replace h_11 := h_11.froz 6 (by decide)
      replace hst := hst.froz 6 (by decide) (by decide)
      refine l_lit (col := (frC 6 col_60)) (r := (Rep.zrow 3 (Rep.int .i64))) (xs := [([(-77)], b)]) [(.slice (some ⟨b, 0, none⟩) ([(-77)] : List Int).length 1)] 7 rfl Try.underlying22 el31_10 rfl rfl rfl rfl rfl rfl (by intro v hv; simp only [List.mem_cons, List.not_mem_nil, or_false] at hv; subst hv; rfl) (RowsH.ofF (Rows.consF (r := (Rep.zrow 3 (Rep.int .i64))) (x := ([(-77)], b)) (cs := [(.slice (some ⟨b, 0, none⟩) ([(-77)] : List Int).length 1)]) hz Rows.nil0)) ?_
      intro a_63 w_64 col_65 hg_66 h_67
      replace h0 := h0.gr hg_66
      replace h_7 := h_7.gr hg_66
      replace h_11 := h_11.gr hg_66
      replace hst := hst.grow hg_66
      obtain ⟨hb_68, hm⟩ := chk_some hm
      simp only [List.length_map] at hb_68
      refine l_appendM (col := col_65) (w := w_64) (r := (Rep.zrow 3 (Rep.int .i64))) (c := 2) (c2 := 2) (xs := Zl) (ys := [([(-77)], b)]) h_11 (h_67.srcN NB.zrow) rfl Try.underlying22 el31_10 rfl rfl rfl hb_68.1 hb_68.2 (by decide) ?_
      intro a_69 cap_70 w_71 col_72 hk_73 h_74
      replace h0 := h0.kpp hk_73 rfl
      replace h_7 := h_7.kpp hk_73 rfl rfl
      replace hst := hst.kpp hk_73 rfl rfl
      clear h_11
      refine lv (v := (.slice a_69 ((Zl ++ [([(-77)], b)]).length) cap_70)) rfl rfl (r_assign rfl) ?_
      refine lnil ?_
      refine wseq ?_
      refine wregion ?_
      refine lv (v := (.slice a_69 ((Zl ++ [([(-77)], b)]).length) cap_70)) rfl rfl (r_move rfl) ?_
      refine lv (v := (.slice a0 p0_parents.length cap0)) rfl rfl (r_move rfl) ?_
      refine lv (v := (.int .i64 (p0_parents.length : Int))) rfl rfl (r_len Try.underlying22 rfl) ?_
      obtain ⟨hb_75, hm⟩ := chk_some hm
      have hlen : (Zl.map (fun x : List Int × Nat => x.1) ++ [[(-77)]]).length = (Zl ++ [([(-77)], b)]).length := by simp
      refine lv (v := .slice a_69 (Int.toNat (p0_parents.length : Int)) cap_70) rfl rfl (r_sliceH Try.underlying22 Try.sizeOf31 rfl rfl hb_75.1 (by have := h_74.lecap; have := hb_75.2; rw [hlen] at this; omega)) ?_
      refine .ld (d := 40) (v := (.slice a_69 (((Zl.map (fun x : List Int × Nat => x.1) ++ [[(-77)]]).take (Int.toNat (p0_parents.length : Int))).length) cap_70)) (congrArg (fun n => Value.slice a_69 n cap_70) (List.length_take_of_le (show (Int.toNat (p0_parents.length : Int)) ≤ (Zl.map (fun x : List Int × Nat => x.1) ++ [[(-77)]]).length by have := hb_75.2; omega)).symm) ?_
      refine .ld (d := 4) (v := (.slice a_5 (Zf.map (·.1)).length cap_6)) (congrArg (fun n => Value.slice a_5 n cap_6) (List.length_map ..).symm) ?_
      refine lv (v := (.slice a_5 (Zf.map (·.1)).length cap_6)) rfl rfl (r_move rfl) ?_
      refine lv (v := (.slice a_69 (((Zl.map (fun x : List Int × Nat => x.1) ++ [[(-77)]]).take (Int.toNat (p0_parents.length : Int))).length) cap_70)) rfl rfl (r_assign rfl) ?_
      refine lv (v := (.slice a_5 (Zf.map (·.1)).length cap_6)) rfl rfl (r_assign rfl) ?_
      refine lnil ?_
      refine wret ?_
      cases hm
      have hB : (Zl ++ [(([(-77)] : List Int), b)]).map (·.2) = Zf.map (·.2) ++ [b] := by rw [List.map_append, hZ.1]; rfl
      have hge : ∀ x ∈ Zf.map (·.2) ++ [b], w0.heap.size ≤ x := fun x hx => by
        rcases List.mem_append.1 hx with hx | hx
        · exact hZ.2.2 x hx
        · rw [List.mem_singleton] at hx; subst hx; exact hbn
      have hnd : (Zf.map (·.2) ++ [b]).Nodup := by
        rw [List.nodup_append]
        exact ⟨hZ.2.1, by simp, fun x hx y hy he => by rw [List.mem_singleton] at hy; subst hy; subst he; exact hbf hx⟩
      let colW : Col := fun k => if k < w0.heap.size then col k else if k ∈ Zf.map (·.2) ++ [b] then c1 else bif Nat.beq (col_72 k) 1 || Nat.beq (col_72 k) 2 then c1 else 0
      have hW1 : ∀ x ∈ Zf.map (·.2) ++ [b], colW x = c1 := fun x hx => by
        have := hge x hx
        simp only [colW]; rw [if_neg (by omega), if_pos hx]
      have hW2 : ∀ k c, col_72 k = c → (c = 1 ∨ c = 2) → colW k = c1 := fun k c hk hc => by
        have := hnew k c hst hk (by omega) (by omega)
        simp only [colW]; rw [if_neg (by omega), hk]
        rcases hc with rfl | rfl <;> simp
      have hmapE : Zl.map (fun x : List Int × Nat => x.1) ++ [[(-77)]] = (Zl ++ [(([(-77)] : List Int), b)]).map (·.1) := by rw [List.map_append]; rfl
      refine ⟨rfl, colW, a_69, cap_70, a_5, cap_6, rfl, ⟨hst.below, fun k hk => if_pos hk⟩, ⟨?_, ?_⟩⟩
      · show Own _ _ _ _ _ _ _ (Zl.map (·.1) ++ [[(-77)]])
        rw [hmapE]
        exact h_74.ofZ (flat_int .i64) (by decide) (by rw [hB]; exact hnd) (by rw [hB]; exact hW1) fun k hk => hW2 k 2 hk (.inr rfl)
      · exact h_7.ofZ (flat_int .i64) (by decide) hZ.2.1 (fun x hx => hW1 x (List.mem_append_left _ hx)) fun k hk => hW2 k 1 hk (.inl rfl)




def m_credencelaw14_kept_J2 (i_8 : Int) (kk_L1 : (Int → Option Bool)) (v_59 : Bool) : Option Bool :=
  if v_59 = true then (some false) else (kk_L1 (IntKind.i64.wrap (i_8 + 1)))

def m_credencelaw14_kept_J3 (v_126 : Bool) : Option Bool :=
  some v_126

def m_credencelaw14_kept_L1 (N : Nat) (n0 : Nat) (p0_l : (List (List Int))) (p1_full : (List (List Int))) (p2_parents : (List (List Int))) : Nat → Int → Option Bool
  | 0, _ => none
  | n_5 + 1, i_8 => if (decide (i_8 < (p2_parents.length : Int))) = true then ((at? p1_full i_8).bind fun e_60 => (at? p2_parents i_8).bind fun e_67 => (m_credencelaw14_long e_67).bind fun r_75 => (m_credenceref14_Same N e_60 r_75).bind fun r_84 => if (!r_84) = true then (m_credencelaw14_kept_J2 i_8 (m_credencelaw14_kept_L1 N n0 p0_l p1_full p2_parents n_5) true) else ((at? (p0_l.take n0) i_8).bind fun e_90 => (m_credenceref14_Same N e_90 e_67).bind fun r_103 => m_credencelaw14_kept_J2 i_8 (m_credencelaw14_kept_L1 N n0 p0_l p1_full p2_parents n_5) (!r_103))) else (chk ((0 : Int) ≤ (IntKind.i64.wrap (((p0_l.take n0).length : Int) + 1)) ∧ (IntKind.i64.wrap (((p0_l.take n0).length : Int) + 1)) ≤ (p0_l.length : Int)) ((at? (p0_l.take (Int.toNat (IntKind.i64.wrap (((p0_l.take n0).length : Int) + 1)))) ((p0_l.take n0).length : Int)).bind fun e_127 => if (decide ((e_127.length : Int) = 1)) = true then ((at? e_127 0).bind fun e_140 => m_credencelaw14_kept_J3 (decide (e_140 = (-77)))) else (m_credencelaw14_kept_J3 false)))

def m_credencelaw14_kept_J1 (N : Nat) (n0 : Nat) (p0_l : (List (List Int))) (p1_full : (List (List Int))) (p2_parents : (List (List Int))) (v_4 : Bool) : Option Bool :=
  if v_4 = true then (some false) else (m_credencelaw14_kept_L1 N n0 p0_l p1_full p2_parents N 0)

def m_credencelaw14_kept (N : Nat) (n0 : Nat) (p0_l : (List (List Int))) (p1_full : (List (List Int))) (p2_parents : (List (List Int))) : Option Bool :=
  if (!decide (((p0_l.take n0).length : Int) = (p2_parents.length : Int))) = true then (m_credencelaw14_kept_J1 N n0 p0_l p1_full p2_parents true) else (m_credencelaw14_kept_J1 N n0 p0_l p1_full p2_parents (!decide ((p1_full.length : Int) = (p2_parents.length : Int))))

set_option maxRecDepth 100000 in
theorem c_credencelaw14_kept (N : Nat) (col : Col) (w0 : World) (a0 : Option Addr) (cap0 : Nat) (n0 : Nat) (p0_l : (List (List Int))) (a1 : Option Addr) (cap1 : Nat) (p1_full : (List (List Int))) (a2 : Option Addr) (cap2 : Nat) (p2_parents : (List (List Int))) (h0 : Sl (Rep.slice (Rep.int .i64)) col w0 a0 cap0 p0_l) (h1 : Sl (Rep.slice (Rep.int .i64)) col w0 a1 cap1 p1_full) (h2 : Sl (Rep.slice (Rep.int .i64)) col w0 a2 cap2 p2_parents) (r : Bool) (hm : m_credencelaw14_kept N n0 p0_l p1_full p2_parents = some r) :
    Calls Try.prog 14 #[(.slice a0 ((p0_l.take n0).length) cap0), (.slice a1 p1_full.length cap1), (.slice a2 p2_parents.length cap2)] w0 (fun e w' => e = .returned ((.bool r)) ∧ Below w0.heap.size w0 w') := by
  refine calls_of1 6 (m := 72) (args := [(.slice a0 ((p0_l.take n0).length) cap0), (.slice a1 p1_full.length cap1), (.slice a2 p2_parents.length cap2)]) Try.func14 rfl rfl rfl rfl rfl ?_
  rw [m_credencelaw14_kept.eq_1] at hm
  have hst := St.start col w0
  replace h0 := h0.keep (Stay.start col w0)
  replace h1 := h1.keep (Stay.start col w0)
  replace h2 := h2.keep (Stay.start col w0)
  refine wseq ?_
  refine wregion ?_
  refine lv (v := (.bool false)) rfl rfl (r_assign rfl) ?_
  refine lnil ?_
  refine wseq ?_
  refine wseq ?_
  refine Wp.cut (fun f w_2 => ∃ (col_3 : Col) (v_4 : Bool), m_credencelaw14_kept_J1 N n0 p0_l p1_full p2_parents v_4 = some r ∧ St w0 (col0 col) col_3 w_2 ∧ Sl (Rep.slice (Rep.int .i64)) col_3 w_2 a0 cap0 p0_l ∧ Sl (Rep.slice (Rep.int .i64)) col_3 w_2 a1 cap1 p1_full ∧ Sl (Rep.slice (Rep.int .i64)) col_3 w_2 a2 cap2 p2_parents ∧ f 0 = (.slice a0 ((p0_l.take n0).length) cap0) ∧ f 1 = (.slice a1 p1_full.length cap1) ∧ f 2 = (.slice a2 p2_parents.length cap2) ∧ f 20 = (.bool v_4) ∧ f 1000000 = (enc [])) ?_ ?_
  · intro f w_2 hJ
    obtain ⟨col_3, v_4, hm, hst, h0, h1, h2, hs0, hs1, hs2, hs20, hs1000000⟩ := hJ
    rw [m_credencelaw14_kept_J1.eq_1] at hm
    refine .ld (d := 0) (v := (.slice a0 ((p0_l.take n0).length) cap0)) hs0 ?_
    refine .ld (d := 1) (v := (.slice a1 p1_full.length cap1)) hs1 ?_
    refine .ld (d := 2) (v := (.slice a2 p2_parents.length cap2)) hs2 ?_
    refine .ld (d := 20) (v := (.bool v_4)) hs20 ?_
    refine .ld (d := 1000000) (v := (enc [])) hs1000000 ?_
    clear hs0 hs1 hs2 hs20 hs1000000
    refine wcond (v_4) rfl (fun hb => ?_) (fun hb => ?_)
    · rw [if_pos hb] at hm
      clear hb
      refine wseq ?_
      refine wregion ?_
      refine lv (v := (.bool false)) rfl rfl (r_assign rfl) ?_
      refine lnil ?_
      refine wret ?_
      cases hm
      exact ⟨rfl, rfl, hst.below⟩
    · rw [if_neg (by rw [hb]; decide)] at hm
      clear hb
      refine wskip ?_
      refine wseq ?_
      refine wseq ?_
      refine wregion ?_
      refine lv (v := (.int .i64 0)) rfl rfl (r_assign rfl) ?_
      refine lnil ?_
      refine wblock ?_
      refine wloop (fun n f w_6 => ∃ (col_7 : Col) (i_8 : Int) (n_5 : Nat), n_5 = n ∧ m_credencelaw14_kept_L1 N n0 p0_l p1_full p2_parents n_5 i_8 = some r ∧ St w0 (col0 col) col_7 w_6 ∧ Sl (Rep.slice (Rep.int .i64)) col_7 w_6 a0 cap0 p0_l ∧ Sl (Rep.slice (Rep.int .i64)) col_7 w_6 a1 cap1 p1_full ∧ Sl (Rep.slice (Rep.int .i64)) col_7 w_6 a2 cap2 p2_parents ∧ f 0 = (.slice a0 ((p0_l.take n0).length) cap0) ∧ f 1 = (.slice a1 p1_full.length cap1) ∧ f 2 = (.slice a2 p2_parents.length cap2) ∧ f 7 = (.int .i64 i_8) ∧ f 1000000 = (enc [])) N ⟨col_3, 0, N, rfl, hm, hst, h0, h1, h2, rfl, rfl, rfl, rfl, rfl⟩ ?_
      clear hm; intro n f w_6 hI
      obtain ⟨col_7, i_8, n_5, hn, hm, hst, h0, h1, h2, hs0, hs1, hs2, hs7, hs1000000⟩ := hI
      subst hn
      refine .ld (d := 0) (v := (.slice a0 ((p0_l.take n0).length) cap0)) hs0 ?_
      refine .ld (d := 1) (v := (.slice a1 p1_full.length cap1)) hs1 ?_
      refine .ld (d := 2) (v := (.slice a2 p2_parents.length cap2)) hs2 ?_
      refine .ld (d := 7) (v := (.int .i64 i_8)) hs7 ?_
      refine .ld (d := 1000000) (v := (enc [])) hs1000000 ?_
      clear hs0 hs1 hs2 hs7 hs1000000
      cases n_5 with
      | zero => rw [m_credencelaw14_kept_L1.eq_1] at hm; cases hm
      | succ n_5 =>
        rw [m_credencelaw14_kept_L1.eq_2] at hm
        refine wseq ?_
        refine wseq ?_
        refine wregion ?_
        refine lv (v := (.int .i64 i_8)) rfl rfl (r_move rfl) ?_
        refine lv (v := (.slice a2 p2_parents.length cap2)) rfl rfl (r_move rfl) ?_
        refine lv (v := (.int .i64 (p2_parents.length : Int))) rfl rfl (r_len Try.underlying22 rfl) ?_
        refine lv (v := (.bool (decide (i_8 < (p2_parents.length : Int))))) rfl rfl (r_lss i_8 (p2_parents.length : Int) rfl rfl) ?_
        refine lnil ?_
        refine wcond (decide (i_8 < (p2_parents.length : Int))) rfl (fun hb => ?_) (fun hb => ?_)
        · rw [if_pos hb] at hm
          clear hb
          refine wskip ?_
          refine wseq ?_
          refine wblock ?_
          refine wseq ?_
          refine Wp.cut (fun f w_57 => ∃ (col_58 : Col) (v_59 : Bool), m_credencelaw14_kept_J2 i_8 (m_credencelaw14_kept_L1 N n0 p0_l p1_full p2_parents n_5) v_59 = some r ∧ St w0 (col0 col) col_58 w_57 ∧ Sl (Rep.slice (Rep.int .i64)) col_58 w_57 a0 cap0 p0_l ∧ Sl (Rep.slice (Rep.int .i64)) col_58 w_57 a1 cap1 p1_full ∧ Sl (Rep.slice (Rep.int .i64)) col_58 w_57 a2 cap2 p2_parents ∧ f 0 = (.slice a0 ((p0_l.take n0).length) cap0) ∧ f 1 = (.slice a1 p1_full.length cap1) ∧ f 2 = (.slice a2 p2_parents.length cap2) ∧ f 49 = (.bool v_59) ∧ f 7 = (.int .i64 i_8) ∧ f 1000000 = (enc [])) ?_ ?_
          · intro f w_57 hJ
            obtain ⟨col_58, v_59, hm, hst, h0, h1, h2, hs0, hs1, hs2, hs49, hs7, hs1000000⟩ := hJ
            rw [m_credencelaw14_kept_J2.eq_1] at hm
            refine .ld (d := 0) (v := (.slice a0 ((p0_l.take n0).length) cap0)) hs0 ?_
            refine .ld (d := 1) (v := (.slice a1 p1_full.length cap1)) hs1 ?_
            refine .ld (d := 2) (v := (.slice a2 p2_parents.length cap2)) hs2 ?_
            refine .ld (d := 49) (v := (.bool v_59)) hs49 ?_
            refine .ld (d := 7) (v := (.int .i64 i_8)) hs7 ?_
            refine .ld (d := 1000000) (v := (enc [])) hs1000000 ?_
            clear hs0 hs1 hs2 hs49 hs7 hs1000000
            refine wcond (v_59) rfl (fun hb => ?_) (fun hb => ?_)
            · rw [if_pos hb] at hm
              clear hb
              refine wseq ?_
              refine wregion ?_
              refine lv (v := (.bool false)) rfl rfl (r_assign rfl) ?_
              refine lnil ?_
              refine wret ?_
              cases hm
              exact ⟨rfl, rfl, hst.below⟩
            · rw [if_neg (by rw [hb]; decide)] at hm
              clear hb
              refine wskip ?_
              refine wregion ?_
              refine lv (v := (.int .i64 i_8)) rfl rfl (r_move rfl) ?_
              refine lv (v := (.int .i64 (IntKind.i64.wrap (i_8 + 1)))) rfl rfl (r_add i_8 1 rfl rfl) ?_
              refine lv (v := (.int .i64 (IntKind.i64.wrap (i_8 + 1)))) rfl rfl (r_assign rfl) ?_
              refine lnil ?_
              exact ⟨n_5, by omega, ⟨col_58, (IntKind.i64.wrap (i_8 + 1)), n_5, rfl, hm, hst, h0, h1, h2, rfl, rfl, rfl, rfl, rfl⟩⟩
          · refine wmix (col := col_7) [(0, 1), (1, 1), (2, 1), (3, 0), (4, 1), (5, 1), (6, 1), (7, 0), (8, 3), (9, 3), (10, 1), (11, 1), (12, 1), (13, 1), (14, 1), (15, 0), (16, 1), (17, 1), (18, 1), (19, 0), (20, 3), (21, 1), (22, 1)] (by kernel_rfl) (by kernel_rfl) ?_
            refine xu (v := (.slice a1 p1_full.length cap1)) rfl rfl (fun _ => r_move rfl) ?_
            refine xu (v := (.int .i64 i_8)) rfl rfl (fun _ => r_move rfl) ?_
            obtain ⟨e_60, hj_61, hm⟩ := bind_some hm
            refine xu (v := (sptr a1 (Int.toNat i_8 * 1))) rfl rfl (fun _ => r_idx Try.underlying22 Try.sizeOf31 rfl rfl (at?_some hj_61).1 (at?_some hj_61).2.1 (h1.addr hj_61)) ?_
            obtain ⟨_, hr_62, hA_63⟩ := h1.atN hj_61
            obtain ⟨⟨a_64, cap_65, rfl, h_66⟩, _⟩ := hr_62
            refine xv (v := (.slice a_64 e_60.length cap_65)) rfl rfl (fun _ hC => r_ld Try.isAgg31 rfl (hA_63.one.gr (Grow.of_below (col := col_7) hC.below))) ?_
            refine xu (v := (.slice a2 p2_parents.length cap2)) rfl rfl (fun _ => r_move rfl) ?_
            refine xu (v := (.int .i64 i_8)) rfl rfl (fun _ => r_move rfl) ?_
            obtain ⟨e_67, hj_68, hm⟩ := bind_some hm
            refine xu (v := (sptr a2 (Int.toNat i_8 * 1))) rfl rfl (fun _ => r_idx Try.underlying22 Try.sizeOf31 rfl rfl (at?_some hj_68).1 (at?_some hj_68).2.1 (h2.addr hj_68)) ?_
            obtain ⟨_, hr_69, hA_70⟩ := h2.atN hj_68
            obtain ⟨⟨a_71, cap_72, rfl, h_73⟩, _⟩ := hr_69
            refine xv (v := (.slice a_71 e_67.length cap_72)) rfl rfl (fun _ hC => r_ld Try.isAgg31 rfl (hA_70.one.gr (Grow.of_below (col := col_7) hC.below))) ?_
            refine xe rfl rfl ?_
            intro w_74 hC0
            have hC : Grow col_7 w_6 col_7 w_74 := .of_below hC0.below
            replace h0 := h0.gr hC
            replace h1 := h1.gr hC
            replace h2 := h2.gr hC
            replace h_66 := h_66.gr hC
            replace h_73 := h_73.gr hC
            replace hst := hst.grow hC
            obtain ⟨r_75, hr_76, hm⟩ := bind_some hm
            refine lc rfl rfl (r_call1 Try.call26 rfl) (c_credencelaw14_long 2 col_7 _ a_71 cap_72 e_67 h_73 r_75 hr_76) ?_
            rintro _ w_80 ⟨col_82, ra_77, rc_78, rfl, hg_81, rh_79⟩
            refine ⟨_, rfl, ?_⟩
            replace h0 := h0.gr hg_81
            replace h1 := h1.gr hg_81
            replace h2 := h2.gr hg_81
            replace h_66 := h_66.gr hg_81
            replace h_73 := h_73.gr hg_81
            replace hst := hst.grow hg_81
            refine lnil ⟨fun w' => Grow col_82 w_80 col_82 w', Grow.refl _ _, fun _ _ h => cls hC0 hg_81 h, ?_⟩
            refine xe rfl rfl ?_
            intro w_83 hC0
            have hC : Grow col_82 w_80 col_82 w_83 := .of_below hC0.below
            replace h0 := h0.gr hC
            replace h1 := h1.gr hC
            replace h2 := h2.gr hC
            replace h_66 := h_66.gr hC
            replace rh_79 := rh_79.gr hC
            replace hst := hst.grow hC
            obtain ⟨r_84, hr_85, hm⟩ := bind_some hm
            refine lc rfl rfl (r_call2 Try.call12 rfl rfl) (c_credenceref14_Same N (frC 2 col_82) _ a_64 cap_65 e_60 ra_77 rc_78 r_75 (h_66.froz 2) (rh_79.toSlF (Froz.int .i64)) r_84 hr_85) ?_
            rintro _ w_86 ⟨rfl, hg_87⟩
            refine ⟨_, rfl, ?_⟩
            replace hg_87 : Grow col_82 w_83 col_82 w_86 := .of_below hg_87
            replace h0 := h0.gr hg_87
            replace h1 := h1.gr hg_87
            replace h2 := h2.gr hg_87
            replace h_66 := h_66.gr hg_87
            replace rh_79 := rh_79.gr hg_87
            replace hst := hst.grow hg_87
            refine lnil ⟨fun w' => Grow col_82 w_86 col_82 w', Grow.refl _ _, fun _ _ h => cls hC0 hg_87 h, ?_⟩
            refine xu (v := (.bool (!r_84))) rfl rfl (fun _ => r_not r_84 rfl) ?_
            refine xu (v := (.bool (!r_84))) rfl rfl (fun _ => r_move rfl) ?_
            by_cases hg_88 : (!r_84) = true
            · rw [if_pos hg_88] at hm
              refine xpass (b := !r_84) 38 rfl rfl rfl rfl rfl (by rw [hg_88]; rfl) ?_
              refine xpass (b := !r_84) 38 rfl rfl rfl rfl rfl (by rw [hg_88]; rfl) ?_
              refine xpass (b := !r_84) 38 rfl rfl rfl rfl rfl (by rw [hg_88]; rfl) ?_
              refine xpass (b := !r_84) 38 rfl rfl rfl rfl rfl (by rw [hg_88]; rfl) ?_
              refine xpass (b := !r_84) 38 rfl rfl rfl rfl rfl (by rw [hg_88]; rfl) ?_
              refine xpass (b := !r_84) 38 rfl rfl rfl rfl rfl (by rw [hg_88]; rfl) ?_
              refine xpass (b := !r_84) 38 rfl rfl rfl rfl rfl (by rw [hg_88]; rfl) ?_
              refine xpass (b := !r_84) 38 rfl rfl rfl rfl rfl (by rw [hg_88]; rfl) ?_
              refine xpass (b := !r_84) 38 rfl rfl rfl rfl rfl (by rw [hg_88]; rfl) ?_
              refine xpass (b := !r_84) 38 rfl rfl rfl rfl rfl (by rw [hg_88]; rfl) ?_
              refine xu (v := (.bool true)) rfl rfl (fun _ => r_pickT (congrArg Value.bool hg_88) rfl) ?_
              refine xnil ?_
              intro w_89 hC
              replace hC : Grow col_82 w_86 col_82 w_89 := .of_below hC.below
              replace h0 := h0.gr hC
              replace h1 := h1.gr hC
              replace h2 := h2.gr hC
              replace hst := hst.grow hC
              exact ⟨col_82, true, hm, hst, h0, h1, h2, rfl, rfl, rfl, rfl, rfl, rfl⟩
            · rw [if_neg hg_88] at hm
              replace hg_88 := Bool.eq_false_iff.2 hg_88
              refine xu_g (v := (.slice a0 ((p0_l.take n0).length) cap0)) (b := !r_84) 38 rfl rfl rfl rfl rfl (by rw [hg_88]; rfl) (fun _ => r_move rfl) ?_
              refine xu_g (v := (.int .i64 i_8)) (b := !r_84) 38 rfl rfl rfl rfl rfl (by rw [hg_88]; rfl) (fun _ => r_move rfl) ?_
              obtain ⟨e_90, hj_91, hm⟩ := bind_some hm
              refine xu_g (v := (sptr a0 (Int.toNat i_8 * 1))) (b := !r_84) 38 rfl rfl rfl rfl rfl (by rw [hg_88]; rfl) (fun _ => r_idx Try.underlying22 Try.sizeOf31 rfl rfl (at?_some hj_91).1 (at?_some hj_91).2.1 ((h0.take n0).addr hj_91)) ?_
              obtain ⟨_, hr_92, hA_93⟩ := (h0.take n0).atN hj_91
              obtain ⟨⟨a_94, cap_95, rfl, h_96⟩, _⟩ := hr_92
              refine xv_g (v := (.slice a_94 e_90.length cap_95)) (b := !r_84) 38 rfl rfl rfl rfl rfl (by rw [hg_88]; rfl) (fun _ hC => r_ld Try.isAgg31 rfl (hA_93.one.gr (Grow.of_below (col := col_82) hC.below))) ?_
              refine xu_g (v := (.slice a2 p2_parents.length cap2)) (b := !r_84) 38 rfl rfl rfl rfl rfl (by rw [hg_88]; rfl) (fun _ => r_move rfl) ?_
              refine xu_g (v := (.int .i64 i_8)) (b := !r_84) 38 rfl rfl rfl rfl rfl (by rw [hg_88]; rfl) (fun _ => r_move rfl) ?_
              refine xu_g (v := (sptr a2 (Int.toNat i_8 * 1))) (b := !r_84) 38 rfl rfl rfl rfl rfl (by rw [hg_88]; rfl) (fun _ => r_idx Try.underlying22 Try.sizeOf31 rfl rfl (at?_some hj_68).1 (at?_some hj_68).2.1 (h2.addr hj_68)) ?_
              obtain ⟨_, hr_97, hA_98⟩ := h2.atN hj_68
              obtain ⟨⟨a_99, cap_100, rfl, h_101⟩, _⟩ := hr_97
              refine xv_g (v := (.slice a_99 e_67.length cap_100)) (b := !r_84) 38 rfl rfl rfl rfl rfl (by rw [hg_88]; rfl) (fun _ hC => r_ld Try.isAgg31 rfl (hA_98.one.gr (Grow.of_below (col := col_82) hC.below))) ?_
              refine xe rfl rfl ?_
              intro w_102 hC0
              have hC : Grow col_82 w_86 col_82 w_102 := .of_below hC0.below
              replace h0 := h0.gr hC
              replace h1 := h1.gr hC
              replace h2 := h2.gr hC
              replace h_96 := h_96.gr hC
              replace h_101 := h_101.gr hC
              replace hst := hst.grow hC
              refine lg (b := !r_84) 38 rfl rfl rfl (by rw [hg_88]; rfl) ?_
              obtain ⟨r_103, hr_104, hm⟩ := bind_some hm
              refine lc rfl rfl (r_call2 Try.call12 rfl rfl) (c_credenceref14_Same N col_82 _ a_94 cap_95 e_90 a_99 cap_100 e_67 h_96 h_101 r_103 hr_104) ?_
              rintro _ w_105 ⟨rfl, hg_106⟩
              refine ⟨_, rfl, ?_⟩
              replace hg_106 : Grow col_82 w_102 col_82 w_105 := .of_below hg_106
              replace h0 := h0.gr hg_106
              replace h1 := h1.gr hg_106
              replace h2 := h2.gr hg_106
              replace h_96 := h_96.gr hg_106
              replace h_101 := h_101.gr hg_106
              replace hst := hst.grow hg_106
              refine lnil ⟨fun w' => Grow col_82 w_105 col_82 w', Grow.refl _ _, fun _ _ h => cls hC0 hg_106 h, ?_⟩
              refine xu_g (v := (.bool (!r_103))) (b := !r_84) 38 rfl rfl rfl rfl rfl (by rw [hg_88]; rfl) (fun _ => r_not r_103 rfl) ?_
              refine xu (v := (.bool (!r_103))) rfl rfl (fun _ => r_pickF (congrArg Value.bool hg_88) rfl) ?_
              refine xnil ?_
              intro w_107 hC
              replace hC : Grow col_82 w_105 col_82 w_107 := .of_below hC.below
              replace h0 := h0.gr hC
              replace h1 := h1.gr hC
              replace h2 := h2.gr hC
              replace hst := hst.grow hC
              exact ⟨col_82, (!r_103), hm, hst, h0, h1, h2, rfl, rfl, rfl, rfl, rfl, rfl⟩
        · rw [if_neg (by rw [hb]; decide)] at hm
          clear hb
          refine wexit (inB_hit ?_)
          refine wseq ?_
          refine wregion ?_
          refine lv (v := (.slice a0 ((p0_l.take n0).length) cap0)) rfl rfl (r_move rfl) ?_
          refine lv (v := (.slice a0 ((p0_l.take n0).length) cap0)) rfl rfl (r_move rfl) ?_
          refine lv (v := (.int .i64 ((p0_l.take n0).length : Int))) rfl rfl (r_len Try.underlying22 rfl) ?_
          refine lv (v := (.int .i64 (IntKind.i64.wrap (((p0_l.take n0).length : Int) + 1)))) rfl rfl (r_add ((p0_l.take n0).length : Int) 1 rfl rfl) ?_
          obtain ⟨hb_108, hm⟩ := chk_some hm
          refine lv (v := .slice a0 (Int.toNat (IntKind.i64.wrap (((p0_l.take n0).length : Int) + 1))) cap0) rfl rfl (r_sliceH Try.underlying22 Try.sizeOf31 rfl rfl hb_108.1 (by have := h0.1.2; have := hb_108.2; omega)) ?_
          refine .ld (d := 54) (v := (.slice a0 ((p0_l.take (Int.toNat (IntKind.i64.wrap (((p0_l.take n0).length : Int) + 1)))).length) cap0)) (congrArg (fun n => Value.slice a0 n cap0) (List.length_take_of_le (show (Int.toNat (IntKind.i64.wrap (((p0_l.take n0).length : Int) + 1))) ≤ p0_l.length by have := hb_108.2; omega)).symm) ?_
          refine lv (v := (.slice a0 ((p0_l.take (Int.toNat (IntKind.i64.wrap (((p0_l.take n0).length : Int) + 1)))).length) cap0)) rfl rfl (r_assign rfl) ?_
          refine lnil ?_
          refine wseq ?_
          refine Wp.cut (fun f w_124 => ∃ (col_125 : Col) (v_126 : Bool), m_credencelaw14_kept_J3 v_126 = some r ∧ St w0 (col0 col) col_125 w_124 ∧ f 6 = (.bool v_126) ∧ f 1000000 = (enc [])) ?_ ?_
          · intro f w_124 hJ
            obtain ⟨col_125, v_126, hm, hst, hs6, hs1000000⟩ := hJ
            rw [m_credencelaw14_kept_J3.eq_1] at hm
            refine .ld (d := 6) (v := (.bool v_126)) hs6 ?_
            refine .ld (d := 1000000) (v := (enc [])) hs1000000 ?_
            clear hs6 hs1000000
            refine wret ?_
            cases hm
            exact ⟨rfl, rfl, hst.below⟩
          · refine wregion ?_
            refine lv (v := (.slice a0 ((p0_l.take (Int.toNat (IntKind.i64.wrap (((p0_l.take n0).length : Int) + 1)))).length) cap0)) rfl rfl (r_move rfl) ?_
            refine lv (v := (.slice a0 ((p0_l.take n0).length) cap0)) rfl rfl (r_move rfl) ?_
            refine lv (v := (.int .i64 ((p0_l.take n0).length : Int))) rfl rfl (r_len Try.underlying22 rfl) ?_
            obtain ⟨e_127, hj_128, hm⟩ := bind_some hm
            refine lv (v := (sptr a0 (Int.toNat ((p0_l.take n0).length : Int) * 1))) rfl rfl (r_idx Try.underlying22 Try.sizeOf31 rfl rfl (at?_some hj_128).1 (at?_some hj_128).2.1 ((h0.take (Int.toNat (IntKind.i64.wrap (((p0_l.take n0).length : Int) + 1)))).addr hj_128)) ?_
            obtain ⟨_, hr_129, hA_130⟩ := (h0.take (Int.toNat (IntKind.i64.wrap (((p0_l.take n0).length : Int) + 1)))).atN hj_128
            obtain ⟨⟨a_131, cap_132, rfl, h_133⟩, _⟩ := hr_129
            refine lv (v := (.slice a_131 e_127.length cap_132)) rfl rfl (r_ld Try.isAgg31 rfl hA_130.one) ?_
            refine lv (v := (.int .i64 (e_127.length : Int))) rfl rfl (r_len Try.underlying31 rfl) ?_
            refine lv (v := (.bool (decide ((e_127.length : Int) = 1)))) rfl rfl (r_eql (e_127.length : Int) 1 rfl rfl) ?_
            refine lv (v := (.bool (decide ((e_127.length : Int) = 1)))) rfl rfl (r_move rfl) ?_
            by_cases hg_134 : (decide ((e_127.length : Int) = 1)) = true
            · rw [if_pos hg_134] at hm
              refine lg (b := decide ((e_127.length : Int) = 1)) 62 rfl rfl rfl (by rw [hg_134]; rfl) ?_
              refine lv (v := (.slice a0 ((p0_l.take (Int.toNat (IntKind.i64.wrap (((p0_l.take n0).length : Int) + 1)))).length) cap0)) rfl rfl (r_move rfl) ?_
              refine lg (b := decide ((e_127.length : Int) = 1)) 62 rfl rfl rfl (by rw [hg_134]; rfl) ?_
              refine lv (v := (.slice a0 ((p0_l.take n0).length) cap0)) rfl rfl (r_move rfl) ?_
              refine lg (b := decide ((e_127.length : Int) = 1)) 62 rfl rfl rfl (by rw [hg_134]; rfl) ?_
              refine lv (v := (.int .i64 ((p0_l.take n0).length : Int))) rfl rfl (r_len Try.underlying22 rfl) ?_
              refine lg (b := decide ((e_127.length : Int) = 1)) 62 rfl rfl rfl (by rw [hg_134]; rfl) ?_
              refine lv (v := (sptr a0 (Int.toNat ((p0_l.take n0).length : Int) * 1))) rfl rfl (r_idx Try.underlying22 Try.sizeOf31 rfl rfl (at?_some hj_128).1 (at?_some hj_128).2.1 ((h0.take (Int.toNat (IntKind.i64.wrap (((p0_l.take n0).length : Int) + 1)))).addr hj_128)) ?_
              refine lg (b := decide ((e_127.length : Int) = 1)) 62 rfl rfl rfl (by rw [hg_134]; rfl) ?_
              obtain ⟨_, hr_135, hA_136⟩ := (h0.take (Int.toNat (IntKind.i64.wrap (((p0_l.take n0).length : Int) + 1)))).atN hj_128
              obtain ⟨⟨a_137, cap_138, rfl, h_139⟩, _⟩ := hr_135
              refine lv (v := (.slice a_137 e_127.length cap_138)) rfl rfl (r_ld Try.isAgg31 rfl hA_136.one) ?_
              refine lg (b := decide ((e_127.length : Int) = 1)) 62 rfl rfl rfl (by rw [hg_134]; rfl) ?_
              obtain ⟨e_140, hj_141, hm⟩ := bind_some hm
              refine lv (v := (sptr a_137 (Int.toNat 0 * 1))) rfl rfl (r_idx Try.underlying31 Try.sizeOf3 rfl rfl (at?_some hj_141).1 (at?_some hj_141).2.1 (h_139.addr hj_141)) ?_
              refine lg (b := decide ((e_127.length : Int) = 1)) 62 rfl rfl rfl (by rw [hg_134]; rfl) ?_
              refine lv (v := (.int .i64 e_140)) rfl rfl (r_ld Try.isAgg3 rfl (h_139.atInt hj_141)) ?_
              refine lg (b := decide ((e_127.length : Int) = 1)) 62 rfl rfl rfl (by rw [hg_134]; rfl) ?_
              refine lv (v := (.bool (decide (e_140 = (-77))))) rfl rfl (r_eql e_140 (-77) rfl rfl) ?_
              refine lv (v := (.bool (decide (e_140 = (-77))))) rfl rfl (r_pickT (congrArg Value.bool hg_134) rfl) ?_
              refine lv (v := (.bool (decide (e_140 = (-77))))) rfl rfl (r_assign rfl) ?_
              refine lnil ?_
              exact ⟨col_7, (decide (e_140 = (-77))), hm, hst, rfl, rfl⟩
            · rw [if_neg hg_134] at hm
              replace hg_134 := Bool.eq_false_iff.2 hg_134
              refine lp (b := decide ((e_127.length : Int) = 1)) 62 rfl rfl rfl rfl (by rw [hg_134]; rfl) ?_
              refine lp (b := decide ((e_127.length : Int) = 1)) 62 rfl rfl rfl rfl (by rw [hg_134]; rfl) ?_
              refine lp (b := decide ((e_127.length : Int) = 1)) 62 rfl rfl rfl rfl (by rw [hg_134]; rfl) ?_
              refine lp (b := decide ((e_127.length : Int) = 1)) 62 rfl rfl rfl rfl (by rw [hg_134]; rfl) ?_
              refine lp (b := decide ((e_127.length : Int) = 1)) 62 rfl rfl rfl rfl (by rw [hg_134]; rfl) ?_
              refine lp (b := decide ((e_127.length : Int) = 1)) 62 rfl rfl rfl rfl (by rw [hg_134]; rfl) ?_
              refine lp (b := decide ((e_127.length : Int) = 1)) 62 rfl rfl rfl rfl (by rw [hg_134]; rfl) ?_
              refine lp (b := decide ((e_127.length : Int) = 1)) 62 rfl rfl rfl rfl (by rw [hg_134]; rfl) ?_
              refine lv (v := (.bool false)) rfl rfl (r_pickF (congrArg Value.bool hg_134) rfl) ?_
              refine lv (v := (.bool false)) rfl rfl (r_assign rfl) ?_
              refine lnil ?_
              exact ⟨col_7, false, hm, hst, rfl, rfl⟩
  · refine wregion ?_
    refine lv (v := (.slice a0 ((p0_l.take n0).length) cap0)) rfl rfl (r_move rfl) ?_
    refine lv (v := (.int .i64 ((p0_l.take n0).length : Int))) rfl rfl (r_len Try.underlying22 rfl) ?_
    refine lv (v := (.slice a2 p2_parents.length cap2)) rfl rfl (r_move rfl) ?_
    refine lv (v := (.int .i64 (p2_parents.length : Int))) rfl rfl (r_len Try.underlying22 rfl) ?_
    refine lv (v := (.bool (!decide (((p0_l.take n0).length : Int) = (p2_parents.length : Int))))) rfl rfl (r_neq ((p0_l.take n0).length : Int) (p2_parents.length : Int) rfl rfl) ?_
    refine lv (v := (.bool (!decide (((p0_l.take n0).length : Int) = (p2_parents.length : Int))))) rfl rfl (r_move rfl) ?_
    by_cases hg_142 : (!decide (((p0_l.take n0).length : Int) = (p2_parents.length : Int))) = true
    · rw [if_pos hg_142] at hm
      refine lp (b := !decide (((p0_l.take n0).length : Int) = (p2_parents.length : Int))) 14 rfl rfl rfl rfl (by rw [hg_142]; rfl) ?_
      refine lp (b := !decide (((p0_l.take n0).length : Int) = (p2_parents.length : Int))) 14 rfl rfl rfl rfl (by rw [hg_142]; rfl) ?_
      refine lp (b := !decide (((p0_l.take n0).length : Int) = (p2_parents.length : Int))) 14 rfl rfl rfl rfl (by rw [hg_142]; rfl) ?_
      refine lp (b := !decide (((p0_l.take n0).length : Int) = (p2_parents.length : Int))) 14 rfl rfl rfl rfl (by rw [hg_142]; rfl) ?_
      refine lp (b := !decide (((p0_l.take n0).length : Int) = (p2_parents.length : Int))) 14 rfl rfl rfl rfl (by rw [hg_142]; rfl) ?_
      refine lv (v := (.bool true)) rfl rfl (r_pickT (congrArg Value.bool hg_142) rfl) ?_
      refine lnil ?_
      exact ⟨(col0 col), true, hm, hst, h0, h1, h2, rfl, rfl, rfl, rfl, rfl⟩
    · rw [if_neg hg_142] at hm
      replace hg_142 := Bool.eq_false_iff.2 hg_142
      refine lg (b := !decide (((p0_l.take n0).length : Int) = (p2_parents.length : Int))) 14 rfl rfl rfl (by rw [hg_142]; rfl) ?_
      refine lv (v := (.slice a1 p1_full.length cap1)) rfl rfl (r_move rfl) ?_
      refine lg (b := !decide (((p0_l.take n0).length : Int) = (p2_parents.length : Int))) 14 rfl rfl rfl (by rw [hg_142]; rfl) ?_
      refine lv (v := (.int .i64 (p1_full.length : Int))) rfl rfl (r_len Try.underlying22 rfl) ?_
      refine lg (b := !decide (((p0_l.take n0).length : Int) = (p2_parents.length : Int))) 14 rfl rfl rfl (by rw [hg_142]; rfl) ?_
      refine lv (v := (.slice a2 p2_parents.length cap2)) rfl rfl (r_move rfl) ?_
      refine lg (b := !decide (((p0_l.take n0).length : Int) = (p2_parents.length : Int))) 14 rfl rfl rfl (by rw [hg_142]; rfl) ?_
      refine lv (v := (.int .i64 (p2_parents.length : Int))) rfl rfl (r_len Try.underlying22 rfl) ?_
      refine lg (b := !decide (((p0_l.take n0).length : Int) = (p2_parents.length : Int))) 14 rfl rfl rfl (by rw [hg_142]; rfl) ?_
      refine lv (v := (.bool (!decide ((p1_full.length : Int) = (p2_parents.length : Int))))) rfl rfl (r_neq (p1_full.length : Int) (p2_parents.length : Int) rfl rfl) ?_
      refine lv (v := (.bool (!decide ((p1_full.length : Int) = (p2_parents.length : Int))))) rfl rfl (r_pickF (congrArg Value.bool hg_142) rfl) ?_
      refine lnil ?_
      exact ⟨(col0 col), (!decide ((p1_full.length : Int) = (p2_parents.length : Int))), hm, hst, h0, h1, h2, rfl, rfl, rfl, rfl, rfl⟩



theorem el3_37 : ElemOk Try.prog 3 1 8 := ⟨Try.t3, _, rfl, rfl, rfl, rfl, rfl⟩

def m_credenceref14_out_J2 (i_12 : Int) (kk_L2 : (Int → Int → Option (List Int))) (next_19 : Int) : Option (List Int) :=
  kk_L2 next_19 (IntKind.i64.wrap (i_12 + 1))

def m_credenceref14_out_J3 (k_28 : Int) (kk_L3 : (Bool → Int → Option (List Int))) (ready_38 : Bool) : Option (List Int) :=
  kk_L3 ready_38 (IntKind.i64.wrap (k_28 + 1))

def m_credenceref14_out_L3 (N : Nat) (p0_parents : (List (List Int))) (l_4 : List Int) (next_11 : Int) (i_12 : Int) (kk_L2 : (Int → Int → Option (List Int))) : Nat → Bool → Int → Option (List Int)
  | 0, _, _ => none
  | n_24 + 1, ready_27, k_28 => (at? p0_parents i_12).bind fun e_29 => if (decide (k_28 < (e_29.length : Int))) = true then (if ready_27 = true then ((at? e_29 k_28).bind fun e_45 => (m_credenceref14_Has N l_4 e_45).bind fun r_47 => m_credenceref14_out_J3 k_28 (m_credenceref14_out_L3 N p0_parents l_4 next_11 i_12 kk_L2 n_24) r_47) else (m_credenceref14_out_J3 k_28 (m_credenceref14_out_L3 N p0_parents l_4 next_11 i_12 kk_L2 n_24) false)) else (if ready_27 = true then (m_credenceref14_out_J2 i_12 kk_L2 i_12) else (m_credenceref14_out_J2 i_12 kk_L2 next_11))

def m_credenceref14_out_J1 (N : Nat) (p0_parents : (List (List Int))) (l_4 : List Int) (kk_L1 : ((List Int) → Option (List Int))) (next_11 : Int) (i_12 : Int) (kk_L2 : (Int → Int → Option (List Int))) (v_16 : Bool) : Option (List Int) :=
  if v_16 = true then ((m_credenceref14_Has N l_4 i_12).bind fun r_20 => m_credenceref14_out_L3 N p0_parents l_4 next_11 i_12 kk_L2 N (!r_20) 0) else (if (decide (next_11 < 0)) = true then (some l_4) else (chk ((l_4.length + [next_11].length) * 8 ≤ 140737488355328 ∧ l_4.length + [next_11].length ≤ maxLen) (kk_L1 (l_4 ++ [next_11]))))

def m_credenceref14_out_L2 (N : Nat) (p0_parents : (List (List Int))) (l_4 : List Int) (kk_L1 : ((List Int) → Option (List Int))) : Nat → Int → Int → Option (List Int)
  | 0, _, _ => none
  | n_8 + 1, next_11, i_12 => if (decide (i_12 < (p0_parents.length : Int))) = true then (m_credenceref14_out_J1 N p0_parents l_4 kk_L1 next_11 i_12 (m_credenceref14_out_L2 N p0_parents l_4 kk_L1 n_8) (decide (next_11 < 0))) else (m_credenceref14_out_J1 N p0_parents l_4 kk_L1 next_11 i_12 (m_credenceref14_out_L2 N p0_parents l_4 kk_L1 n_8) false)

def m_credenceref14_out_L1 (N : Nat) (p0_parents : (List (List Int))) : Nat → (List Int) → Option (List Int)
  | 0, _ => none
  | n_1 + 1, l_4 => m_credenceref14_out_L2 N p0_parents l_4 (m_credenceref14_out_L1 N p0_parents n_1) N (-1) 0

def m_credenceref14_out (N : Nat) (p0_parents : (List (List Int))) : Option (List Int) :=
  m_credenceref14_out_L1 N p0_parents N ([] : List Int)

set_option maxRecDepth 100000 in
theorem c_credenceref14_out (N : Nat) (c1 : Nat) (col : Col) (w0 : World) (a0 : Option Addr) (cap0 : Nat) (p0_parents : (List (List Int))) (h0 : Sl (Rep.slice (Rep.int .i64)) col w0 a0 cap0 p0_parents) (r : (List Int)) (hm : m_credenceref14_out N p0_parents = some r) :
    Calls Try.prog 37 #[(.slice a0 p0_parents.length cap0)] w0 (fun e w' => ∃ (col' : Col) (ra1 : Option Addr) (rc2 : Nat), e = .returned ((.slice ra1 r.length rc2)) ∧ Grow col w0 col' w' ∧ Own (Rep.int .i64) 3 c1 col' w' ra1 rc2 r) := by
  refine calls_of1 2 (m := 52) (args := [(.slice a0 p0_parents.length cap0)]) Try.func37 rfl rfl rfl rfl rfl ?_
  rw [m_credenceref14_out.eq_1] at hm
  have hst := St.start col w0
  replace h0 := h0.keep (Stay.start col w0)
  refine wseq ?_
  refine wregion ?_
  refine lv (v := (.slice none (([] : List Int).length) 0)) rfl rfl (r_assign rfl) ?_
  refine lnil ?_
  refine wseq ?_
  refine wregion ?_
  refine lv (v := (.slice none (([] : List Int).length) 0)) rfl rfl (r_assign rfl) ?_
  refine lnil ?_
  refine wblock ?_
  refine wloop (fun n f w_2 => ∃ (col_3 : Col) (a_5 : Option Addr) (cap_6 : Nat) (l_4 : List Int) (n_1 : Nat), n_1 = n ∧ m_credenceref14_out_L1 N p0_parents n_1 l_4 = some r ∧ St w0 (col0 col) col_3 w_2 ∧ Sl (Rep.slice (Rep.int .i64)) col_3 w_2 a0 cap0 p0_parents ∧ Own (Rep.int .i64) 3 1 col_3 w_2 a_5 cap_6 l_4 ∧ f 0 = (.slice a0 p0_parents.length cap0) ∧ f 3 = (.slice a_5 l_4.length cap_6) ∧ f 1000000 = (enc [])) N ⟨(col0 col), none, 0, ([] : List Int), N, rfl, hm, hst, h0, Own.nil, rfl, rfl, rfl⟩ ?_
  clear hm; intro n f w_2 hI
  obtain ⟨col_3, a_5, cap_6, l_4, n_1, hn, hm, hst, h0, h_7, hs0, hs3, hs1000000⟩ := hI
  subst hn
  refine .ld (d := 0) (v := (.slice a0 p0_parents.length cap0)) hs0 ?_
  refine .ld (d := 3) (v := (.slice a_5 l_4.length cap_6)) hs3 ?_
  refine .ld (d := 1000000) (v := (enc [])) hs1000000 ?_
  clear hs0 hs3 hs1000000
  cases n_1 with
  | zero => rw [m_credenceref14_out_L1.eq_1] at hm; cases hm
  | succ n_1 =>
    rw [m_credenceref14_out_L1.eq_2] at hm
    refine wblock ?_
    refine wseq ?_
    refine wregion ?_
    refine lv (v := (.int .i64 (-1))) rfl rfl (r_assign rfl) ?_
    refine lnil ?_
    refine wseq ?_
    refine wseq ?_
    refine wregion ?_
    refine lv (v := (.int .i64 0)) rfl rfl (r_assign rfl) ?_
    refine lnil ?_
    refine wblock ?_
    refine wloop (fun n f w_9 => ∃ (col_10 : Col) (next_11 : Int) (i_12 : Int) (n_8 : Nat), n_8 = n ∧ m_credenceref14_out_L2 N p0_parents l_4 (m_credenceref14_out_L1 N p0_parents n_1) n_8 next_11 i_12 = some r ∧ St w0 (col0 col) col_10 w_9 ∧ Sl (Rep.slice (Rep.int .i64)) col_10 w_9 a0 cap0 p0_parents ∧ Own (Rep.int .i64) 3 1 col_10 w_9 a_5 cap_6 l_4 ∧ f 0 = (.slice a0 p0_parents.length cap0) ∧ f 3 = (.slice a_5 l_4.length cap_6) ∧ f 4 = (.int .i64 next_11) ∧ f 5 = (.int .i64 i_12) ∧ f 1000000 = (enc [])) N ⟨col_3, (-1), 0, N, rfl, hm, hst, h0, h_7, rfl, rfl, rfl, rfl, rfl⟩ ?_
    clear hm; intro n f w_9 hI
    obtain ⟨col_10, next_11, i_12, n_8, hn, hm, hst, h0, h_7, hs0, hs3, hs4, hs5, hs1000000⟩ := hI
    subst hn
    refine .ld (d := 0) (v := (.slice a0 p0_parents.length cap0)) hs0 ?_
    refine .ld (d := 3) (v := (.slice a_5 l_4.length cap_6)) hs3 ?_
    refine .ld (d := 4) (v := (.int .i64 next_11)) hs4 ?_
    refine .ld (d := 5) (v := (.int .i64 i_12)) hs5 ?_
    refine .ld (d := 1000000) (v := (enc [])) hs1000000 ?_
    clear hs0 hs3 hs4 hs5 hs1000000
    cases n_8 with
    | zero => rw [m_credenceref14_out_L2.eq_1] at hm; cases hm
    | succ n_8 =>
      rw [m_credenceref14_out_L2.eq_2] at hm
      refine wseq ?_
      refine wseq ?_
      refine Wp.cut (fun f w_14 => ∃ (col_15 : Col) (v_16 : Bool), m_credenceref14_out_J1 N p0_parents l_4 (m_credenceref14_out_L1 N p0_parents n_1) next_11 i_12 (m_credenceref14_out_L2 N p0_parents l_4 (m_credenceref14_out_L1 N p0_parents n_1) n_8) v_16 = some r ∧ St w0 (col0 col) col_15 w_14 ∧ Sl (Rep.slice (Rep.int .i64)) col_15 w_14 a0 cap0 p0_parents ∧ Own (Rep.int .i64) 3 1 col_15 w_14 a_5 cap_6 l_4 ∧ f 0 = (.slice a0 p0_parents.length cap0) ∧ f 15 = (.bool v_16) ∧ f 3 = (.slice a_5 l_4.length cap_6) ∧ f 4 = (.int .i64 next_11) ∧ f 5 = (.int .i64 i_12) ∧ f 1000000 = (enc [])) ?_ ?_
      · intro f w_14 hJ
        obtain ⟨col_15, v_16, hm, hst, h0, h_7, hs0, hs15, hs3, hs4, hs5, hs1000000⟩ := hJ
        rw [m_credenceref14_out_J1.eq_1] at hm
        refine .ld (d := 0) (v := (.slice a0 p0_parents.length cap0)) hs0 ?_
        refine .ld (d := 15) (v := (.bool v_16)) hs15 ?_
        refine .ld (d := 3) (v := (.slice a_5 l_4.length cap_6)) hs3 ?_
        refine .ld (d := 4) (v := (.int .i64 next_11)) hs4 ?_
        refine .ld (d := 5) (v := (.int .i64 i_12)) hs5 ?_
        refine .ld (d := 1000000) (v := (enc [])) hs1000000 ?_
        clear hs0 hs15 hs3 hs4 hs5 hs1000000
        refine wcond (v_16) rfl (fun hb => ?_) (fun hb => ?_)
        · rw [if_pos hb] at hm
          clear hb
          refine wskip ?_
          refine wseq ?_
          refine Wp.cut (fun f w_17 => ∃ (col_18 : Col) (next_19 : Int), m_credenceref14_out_J2 i_12 (m_credenceref14_out_L2 N p0_parents l_4 (m_credenceref14_out_L1 N p0_parents n_1) n_8) next_19 = some r ∧ St w0 (col0 col) col_18 w_17 ∧ Sl (Rep.slice (Rep.int .i64)) col_18 w_17 a0 cap0 p0_parents ∧ Own (Rep.int .i64) 3 1 col_18 w_17 a_5 cap_6 l_4 ∧ f 0 = (.slice a0 p0_parents.length cap0) ∧ f 3 = (.slice a_5 l_4.length cap_6) ∧ f 4 = (.int .i64 next_19) ∧ f 5 = (.int .i64 i_12) ∧ f 1000000 = (enc [])) ?_ ?_
          · intro f w_17 hJ
            obtain ⟨col_18, next_19, hm, hst, h0, h_7, hs0, hs3, hs4, hs5, hs1000000⟩ := hJ
            rw [m_credenceref14_out_J2.eq_1] at hm
            refine .ld (d := 0) (v := (.slice a0 p0_parents.length cap0)) hs0 ?_
            refine .ld (d := 3) (v := (.slice a_5 l_4.length cap_6)) hs3 ?_
            refine .ld (d := 4) (v := (.int .i64 next_19)) hs4 ?_
            refine .ld (d := 5) (v := (.int .i64 i_12)) hs5 ?_
            refine .ld (d := 1000000) (v := (enc [])) hs1000000 ?_
            clear hs0 hs3 hs4 hs5 hs1000000
            refine wregion ?_
            refine lv (v := (.int .i64 i_12)) rfl rfl (r_move rfl) ?_
            refine lv (v := (.int .i64 (IntKind.i64.wrap (i_12 + 1)))) rfl rfl (r_add i_12 1 rfl rfl) ?_
            refine lv (v := (.int .i64 (IntKind.i64.wrap (i_12 + 1)))) rfl rfl (r_assign rfl) ?_
            refine lnil ?_
            exact ⟨n_8, by omega, ⟨col_18, next_19, (IntKind.i64.wrap (i_12 + 1)), n_8, rfl, hm, hst, h0, h_7, rfl, rfl, rfl, rfl, rfl⟩⟩
          · refine wblock ?_
            refine wseq ?_
            refine wregion ?_
            refine lv (v := (.slice a_5 l_4.length cap_6)) rfl rfl (r_move rfl) ?_
            refine lv (v := (.int .i64 i_12)) rfl rfl (r_move rfl) ?_
            obtain ⟨r_20, hr_21, hm⟩ := bind_some hm
            refine lc rfl rfl (r_call2 Try.call46 rfl rfl) (c_credenceref14_Has N (frC 1 col_15) _ a_5 cap_6 l_4 i_12 (h_7.toSlF (Froz.int .i64)) r_20 hr_21) ?_
            rintro _ w_22 ⟨rfl, hg_23⟩
            refine ⟨_, rfl, ?_⟩
            replace hg_23 : Grow col_15 w_14 col_15 w_22 := .of_below hg_23
            replace h0 := h0.gr hg_23
            replace h_7 := h_7.gr hg_23
            replace hst := hst.grow hg_23
            refine lv (v := (.bool (!r_20))) rfl rfl (r_not r_20 rfl) ?_
            refine lv (v := (.bool (!r_20))) rfl rfl (r_assign rfl) ?_
            refine lnil ?_
            refine wseq ?_
            refine wseq ?_
            refine wregion ?_
            refine lv (v := (.int .i64 0)) rfl rfl (r_assign rfl) ?_
            refine lnil ?_
            refine wblock ?_
            refine wloop (fun n f w_25 => ∃ (col_26 : Col) (ready_27 : Bool) (k_28 : Int) (n_24 : Nat), n_24 = n ∧ m_credenceref14_out_L3 N p0_parents l_4 next_11 i_12 (m_credenceref14_out_L2 N p0_parents l_4 (m_credenceref14_out_L1 N p0_parents n_1) n_8) n_24 ready_27 k_28 = some r ∧ St w0 (col0 col) col_26 w_25 ∧ Sl (Rep.slice (Rep.int .i64)) col_26 w_25 a0 cap0 p0_parents ∧ Own (Rep.int .i64) 3 1 col_26 w_25 a_5 cap_6 l_4 ∧ f 0 = (.slice a0 p0_parents.length cap0) ∧ f 3 = (.slice a_5 l_4.length cap_6) ∧ f 4 = (.int .i64 next_11) ∧ f 5 = (.int .i64 i_12) ∧ f 6 = (.bool ready_27) ∧ f 7 = (.int .i64 k_28) ∧ f 1000000 = (enc [])) N ⟨col_15, (!r_20), 0, N, rfl, hm, hst, h0, h_7, rfl, rfl, rfl, rfl, rfl, rfl, rfl⟩ ?_
            clear hm; intro n f w_25 hI
            obtain ⟨col_26, ready_27, k_28, n_24, hn, hm, hst, h0, h_7, hs0, hs3, hs4, hs5, hs6, hs7, hs1000000⟩ := hI
            subst hn
            refine .ld (d := 0) (v := (.slice a0 p0_parents.length cap0)) hs0 ?_
            refine .ld (d := 3) (v := (.slice a_5 l_4.length cap_6)) hs3 ?_
            refine .ld (d := 4) (v := (.int .i64 next_11)) hs4 ?_
            refine .ld (d := 5) (v := (.int .i64 i_12)) hs5 ?_
            refine .ld (d := 6) (v := (.bool ready_27)) hs6 ?_
            refine .ld (d := 7) (v := (.int .i64 k_28)) hs7 ?_
            refine .ld (d := 1000000) (v := (enc [])) hs1000000 ?_
            clear hs0 hs3 hs4 hs5 hs6 hs7 hs1000000
            cases n_24 with
            | zero => rw [m_credenceref14_out_L3.eq_1] at hm; cases hm
            | succ n_24 =>
              rw [m_credenceref14_out_L3.eq_2] at hm
              refine wseq ?_
              refine wseq ?_
              refine wregion ?_
              refine lv (v := (.int .i64 k_28)) rfl rfl (r_move rfl) ?_
              refine lv (v := (.slice a0 p0_parents.length cap0)) rfl rfl (r_move rfl) ?_
              refine lv (v := (.int .i64 i_12)) rfl rfl (r_move rfl) ?_
              obtain ⟨e_29, hj_30, hm⟩ := bind_some hm
              refine lv (v := (sptr a0 (Int.toNat i_12 * 1))) rfl rfl (r_idx Try.underlying22 Try.sizeOf31 rfl rfl (at?_some hj_30).1 (at?_some hj_30).2.1 (h0.addr hj_30)) ?_
              obtain ⟨_, hr_31, hA_32⟩ := h0.atN hj_30
              obtain ⟨⟨a_33, cap_34, rfl, h_35⟩, _⟩ := hr_31
              refine lv (v := (.slice a_33 e_29.length cap_34)) rfl rfl (r_ld Try.isAgg31 rfl hA_32.one) ?_
              refine lv (v := (.int .i64 (e_29.length : Int))) rfl rfl (r_len Try.underlying31 rfl) ?_
              refine lv (v := (.bool (decide (k_28 < (e_29.length : Int))))) rfl rfl (r_lss k_28 (e_29.length : Int) rfl rfl) ?_
              refine lnil ?_
              refine wcond (decide (k_28 < (e_29.length : Int))) rfl (fun hb => ?_) (fun hb => ?_)
              · rw [if_pos hb] at hm
                clear hb
                refine wskip ?_
                refine wseq ?_
                refine Wp.cut (fun f w_36 => ∃ (col_37 : Col) (ready_38 : Bool), m_credenceref14_out_J3 k_28 (m_credenceref14_out_L3 N p0_parents l_4 next_11 i_12 (m_credenceref14_out_L2 N p0_parents l_4 (m_credenceref14_out_L1 N p0_parents n_1) n_8) n_24) ready_38 = some r ∧ St w0 (col0 col) col_37 w_36 ∧ Sl (Rep.slice (Rep.int .i64)) col_37 w_36 a0 cap0 p0_parents ∧ Own (Rep.int .i64) 3 1 col_37 w_36 a_5 cap_6 l_4 ∧ f 0 = (.slice a0 p0_parents.length cap0) ∧ f 3 = (.slice a_5 l_4.length cap_6) ∧ f 4 = (.int .i64 next_11) ∧ f 5 = (.int .i64 i_12) ∧ f 6 = (.bool ready_38) ∧ f 7 = (.int .i64 k_28) ∧ f 1000000 = (enc [])) ?_ ?_
                · intro f w_36 hJ
                  obtain ⟨col_37, ready_38, hm, hst, h0, h_7, hs0, hs3, hs4, hs5, hs6, hs7, hs1000000⟩ := hJ
                  rw [m_credenceref14_out_J3.eq_1] at hm
                  refine .ld (d := 0) (v := (.slice a0 p0_parents.length cap0)) hs0 ?_
                  refine .ld (d := 3) (v := (.slice a_5 l_4.length cap_6)) hs3 ?_
                  refine .ld (d := 4) (v := (.int .i64 next_11)) hs4 ?_
                  refine .ld (d := 5) (v := (.int .i64 i_12)) hs5 ?_
                  refine .ld (d := 6) (v := (.bool ready_38)) hs6 ?_
                  refine .ld (d := 7) (v := (.int .i64 k_28)) hs7 ?_
                  refine .ld (d := 1000000) (v := (enc [])) hs1000000 ?_
                  clear hs0 hs3 hs4 hs5 hs6 hs7 hs1000000
                  refine wregion ?_
                  refine lv (v := (.int .i64 k_28)) rfl rfl (r_move rfl) ?_
                  refine lv (v := (.int .i64 (IntKind.i64.wrap (k_28 + 1)))) rfl rfl (r_add k_28 1 rfl rfl) ?_
                  refine lv (v := (.int .i64 (IntKind.i64.wrap (k_28 + 1)))) rfl rfl (r_assign rfl) ?_
                  refine lnil ?_
                  exact ⟨n_24, by omega, ⟨col_37, ready_38, (IntKind.i64.wrap (k_28 + 1)), n_24, rfl, hm, hst, h0, h_7, rfl, rfl, rfl, rfl, rfl, rfl, rfl⟩⟩
                · refine wblock ?_
                  refine wregion ?_
                  refine lv (v := (.bool ready_27)) rfl rfl (r_move rfl) ?_
                  refine lv (v := (.bool ready_27)) rfl rfl (r_move rfl) ?_
                  by_cases hg_39 : ready_27 = true
                  · rw [if_pos hg_39] at hm
                    refine lg (b := ready_27) 32 rfl rfl rfl (by rw [hg_39]; rfl) ?_
                    refine lv (v := (.slice a_5 l_4.length cap_6)) rfl rfl (r_move rfl) ?_
                    refine lg (b := ready_27) 32 rfl rfl rfl (by rw [hg_39]; rfl) ?_
                    refine lv (v := (.slice a0 p0_parents.length cap0)) rfl rfl (r_move rfl) ?_
                    refine lg (b := ready_27) 32 rfl rfl rfl (by rw [hg_39]; rfl) ?_
                    refine lv (v := (.int .i64 i_12)) rfl rfl (r_move rfl) ?_
                    refine lg (b := ready_27) 32 rfl rfl rfl (by rw [hg_39]; rfl) ?_
                    refine lv (v := (sptr a0 (Int.toNat i_12 * 1))) rfl rfl (r_idx Try.underlying22 Try.sizeOf31 rfl rfl (at?_some hj_30).1 (at?_some hj_30).2.1 (h0.addr hj_30)) ?_
                    refine lg (b := ready_27) 32 rfl rfl rfl (by rw [hg_39]; rfl) ?_
                    obtain ⟨_, hr_40, hA_41⟩ := h0.atN hj_30
                    obtain ⟨⟨a_42, cap_43, rfl, h_44⟩, _⟩ := hr_40
                    refine lv (v := (.slice a_42 e_29.length cap_43)) rfl rfl (r_ld Try.isAgg31 rfl hA_41.one) ?_
                    refine lg (b := ready_27) 32 rfl rfl rfl (by rw [hg_39]; rfl) ?_
                    refine lv (v := (.int .i64 k_28)) rfl rfl (r_move rfl) ?_
                    refine lg (b := ready_27) 32 rfl rfl rfl (by rw [hg_39]; rfl) ?_
                    obtain ⟨e_45, hj_46, hm⟩ := bind_some hm
                    refine lv (v := (sptr a_42 (Int.toNat k_28 * 1))) rfl rfl (r_idx Try.underlying31 Try.sizeOf3 rfl rfl (at?_some hj_46).1 (at?_some hj_46).2.1 (h_44.addr hj_46)) ?_
                    refine lg (b := ready_27) 32 rfl rfl rfl (by rw [hg_39]; rfl) ?_
                    refine lv (v := (.int .i64 e_45)) rfl rfl (r_ld Try.isAgg3 rfl (h_44.atInt hj_46)) ?_
                    refine lg (b := ready_27) 32 rfl rfl rfl (by rw [hg_39]; rfl) ?_
                    obtain ⟨r_47, hr_48, hm⟩ := bind_some hm
                    refine lc rfl rfl (r_call2 Try.call46 rfl rfl) (c_credenceref14_Has N (frC 1 col_26) _ a_5 cap_6 l_4 e_45 (h_7.toSlF (Froz.int .i64)) r_47 hr_48) ?_
                    rintro _ w_49 ⟨rfl, hg_50⟩
                    refine ⟨_, rfl, ?_⟩
                    replace hg_50 : Grow col_26 w_25 col_26 w_49 := .of_below hg_50
                    replace h0 := h0.gr hg_50
                    replace h_7 := h_7.gr hg_50
                    replace hst := hst.grow hg_50
                    refine lv (v := (.bool r_47)) rfl rfl (r_pickT (congrArg Value.bool hg_39) rfl) ?_
                    refine lv (v := (.bool r_47)) rfl rfl (r_assign rfl) ?_
                    refine lnil ?_
                    exact ⟨col_26, r_47, hm, hst, h0, h_7, rfl, rfl, rfl, rfl, rfl, rfl, rfl⟩
                  · rw [if_neg hg_39] at hm
                    replace hg_39 := Bool.eq_false_iff.2 hg_39
                    refine lp (b := ready_27) 32 rfl rfl rfl rfl (by rw [hg_39]; rfl) ?_
                    refine lp (b := ready_27) 32 rfl rfl rfl rfl (by rw [hg_39]; rfl) ?_
                    refine lp (b := ready_27) 32 rfl rfl rfl rfl (by rw [hg_39]; rfl) ?_
                    refine lp (b := ready_27) 32 rfl rfl rfl rfl (by rw [hg_39]; rfl) ?_
                    refine lp (b := ready_27) 32 rfl rfl rfl rfl (by rw [hg_39]; rfl) ?_
                    refine lp (b := ready_27) 32 rfl rfl rfl rfl (by rw [hg_39]; rfl) ?_
                    refine lp (b := ready_27) 32 rfl rfl rfl rfl (by rw [hg_39]; rfl) ?_
                    refine lp (b := ready_27) 32 rfl rfl rfl rfl (by rw [hg_39]; rfl) ?_
                    refine lp (b := ready_27) 32 rfl rfl rfl rfl (by rw [hg_39]; rfl) ?_
                    refine lv (v := (.bool false)) rfl rfl (r_pickF (congrArg Value.bool hg_39) rfl) ?_
                    refine lv (v := (.bool false)) rfl rfl (r_assign rfl) ?_
                    refine lnil ?_
                    exact ⟨col_26, false, hm, hst, h0, h_7, rfl, rfl, rfl, rfl, rfl, rfl, rfl⟩
              · rw [if_neg (by rw [hb]; decide)] at hm
                clear hb
                refine wexit (inB_hit ?_)
                refine wseq ?_
                refine wregion ?_
                refine lv (v := (.bool ready_27)) rfl rfl (r_move rfl) ?_
                refine lnil ?_
                refine wcond (ready_27) rfl (fun hb => ?_) (fun hb => ?_)
                · rw [if_pos hb] at hm
                  clear hb
                  refine wregion ?_
                  refine lv (v := (.int .i64 i_12)) rfl rfl (r_move rfl) ?_
                  refine lv (v := (.int .i64 i_12)) rfl rfl (r_assign rfl) ?_
                  refine lnil ?_
                  exact ⟨col_26, i_12, hm, hst, h0, h_7, rfl, rfl, rfl, rfl, rfl⟩
                · rw [if_neg (by rw [hb]; decide)] at hm
                  clear hb
                  refine wskip ?_
                  exact ⟨col_26, next_11, hm, hst, h0, h_7, rfl, rfl, rfl, rfl, rfl⟩
        · rw [if_neg (by rw [hb]; decide)] at hm
          clear hb
          refine wexit (inB_hit ?_)
          refine wseq ?_
          refine wseq ?_
          refine wregion ?_
          refine lv (v := (.int .i64 next_11)) rfl rfl (r_move rfl) ?_
          refine lv (v := (.bool (decide (next_11 < 0)))) rfl rfl (r_lss next_11 0 rfl rfl) ?_
          refine lnil ?_
          refine wcond (decide (next_11 < 0)) rfl (fun hb => ?_) (fun hb => ?_)
          · rw [if_pos hb] at hm
            clear hb
            refine wseq ?_
            refine wregion ?_
            refine lv (v := (.slice a_5 l_4.length cap_6)) rfl rfl (r_move rfl) ?_
            refine lv (v := (.slice a_5 l_4.length cap_6)) rfl rfl (r_assign rfl) ?_
            refine lnil ?_
            refine wret ?_
            cases hm
            exact ⟨rfl, colF w0.heap.size col col_15 (fun n => bif Nat.beq n 1 then c1 else 0), a_5, cap_6, rfl, hst.fin (fun n => bif Nat.beq n 1 then c1 else 0), hst.finOwn (g := (fun n => bif Nat.beq n 1 then c1 else 0)) rfl h_7 (by decide) (by decide) rfl⟩
          · rw [if_neg (by rw [hb]; decide)] at hm
            clear hb
            refine wskip ?_
            refine wregion ?_
            refine lv (v := (.slice a_5 l_4.length cap_6)) rfl rfl (r_move rfl) ?_
            refine lv (v := (.int .i64 next_11)) rfl rfl (r_move rfl) ?_
            refine l_lit (col := col_15) (r := (Rep.int .i64)) (xs := [next_11]) [(.int .i64 next_11)] 2 rfl Try.underlying31 el3_37 rfl rfl rfl rfl rfl rfl (by intro v hv; simp only [List.mem_cons, List.not_mem_nil, or_false] at hv; subst hv; rfl) (RowsH.ofF (Rows.consF (r := (Rep.int .i64)) (x := next_11) (cs := [(.int .i64 next_11)]) (rd_int .i64 next_11) Rows.nil0)) ?_
            intro a_51 w_52 col_53 hg_54 h_55
            replace h0 := h0.gr hg_54
            replace h_7 := h_7.gr hg_54
            replace hst := hst.grow hg_54
            obtain ⟨hb_56, hm⟩ := chk_some hm
            refine l_appendM (col := col_53) (w := w_52) (r := (Rep.int .i64)) (c := 1) (c2 := 1) (xs := l_4) (ys := [next_11]) h_7 (h_55.srcN (NB.int (k := .i64))) rfl Try.underlying31 el3_37 rfl rfl rfl hb_56.1 hb_56.2 (by decide) ?_
            intro a_57 cap_58 w_59 col_60 hk_61 h_62
            replace h0 := h0.kpp hk_61 rfl
            replace h_55 := h_55.kpp hk_61 rfl rfl
            replace hst := hst.kpp hk_61 rfl rfl
            clear h_7
            refine lv (v := (.slice a_57 ((l_4 ++ [next_11]).length) cap_58)) rfl rfl (r_assign rfl) ?_
            refine lnil ?_
            exact ⟨n_1, by omega, ⟨col_60, a_57, cap_58, (l_4 ++ [next_11]), n_1, rfl, hm, hst, h0, h_62, rfl, rfl, rfl⟩⟩
      · refine wregion ?_
        refine lv (v := (.int .i64 i_12)) rfl rfl (r_move rfl) ?_
        refine lv (v := (.slice a0 p0_parents.length cap0)) rfl rfl (r_move rfl) ?_
        refine lv (v := (.int .i64 (p0_parents.length : Int))) rfl rfl (r_len Try.underlying22 rfl) ?_
        refine lv (v := (.bool (decide (i_12 < (p0_parents.length : Int))))) rfl rfl (r_lss i_12 (p0_parents.length : Int) rfl rfl) ?_
        refine lv (v := (.bool (decide (i_12 < (p0_parents.length : Int))))) rfl rfl (r_move rfl) ?_
        by_cases hg_63 : (decide (i_12 < (p0_parents.length : Int))) = true
        · rw [if_pos hg_63] at hm
          refine lg (b := decide (i_12 < (p0_parents.length : Int))) 12 rfl rfl rfl (by rw [hg_63]; rfl) ?_
          refine lv (v := (.int .i64 next_11)) rfl rfl (r_move rfl) ?_
          refine lg (b := decide (i_12 < (p0_parents.length : Int))) 12 rfl rfl rfl (by rw [hg_63]; rfl) ?_
          refine lv (v := (.bool (decide (next_11 < 0)))) rfl rfl (r_lss next_11 0 rfl rfl) ?_
          refine lv (v := (.bool (decide (next_11 < 0)))) rfl rfl (r_pickT (congrArg Value.bool hg_63) rfl) ?_
          refine lnil ?_
          exact ⟨col_10, (decide (next_11 < 0)), hm, hst, h0, h_7, rfl, rfl, rfl, rfl, rfl, rfl⟩
        · rw [if_neg hg_63] at hm
          replace hg_63 := Bool.eq_false_iff.2 hg_63
          refine lp (b := decide (i_12 < (p0_parents.length : Int))) 12 rfl rfl rfl rfl (by rw [hg_63]; rfl) ?_
          refine lp (b := decide (i_12 < (p0_parents.length : Int))) 12 rfl rfl rfl rfl (by rw [hg_63]; rfl) ?_
          refine lv (v := (.bool false)) rfl rfl (r_pickF (congrArg Value.bool hg_63) rfl) ?_
          refine lnil ?_
          exact ⟨col_10, false, hm, hst, h0, h_7, rfl, rfl, rfl, rfl, rfl, rfl⟩




def m_credenceref14_Check (N : Nat) (p0_parents : (List (List Int))) : Option Int :=
  (m_credenceref14_inside N p0_parents).bind fun r_1 => if (!r_1) = true then (some 3) else ((m_credenceref14_twice N p0_parents).bind fun r_5 => if r_5 = true then (some 40) else ((m_credenceref14_out N p0_parents).bind fun r_9 => if (decide ((r_9.length : Int) < (p0_parents.length : Int))) = true then (some 42) else (some 0)))

set_option maxRecDepth 100000 in
theorem c_credenceref14_Check (N : Nat) (col : Col) (w0 : World) (a0 : Option Addr) (cap0 : Nat) (p0_parents : (List (List Int))) (h0 : Sl (Rep.slice (Rep.int .i64)) col w0 a0 cap0 p0_parents) (r : Int) (hm : m_credenceref14_Check N p0_parents = some r) :
    Calls Try.prog 22 #[(.slice a0 p0_parents.length cap0)] w0 (fun e w' => e = .returned ((.int .i64 r)) ∧ Below w0.heap.size w0 w') := by
  refine calls_of1 2 (m := 18) (args := [(.slice a0 p0_parents.length cap0)]) Try.func22 rfl rfl rfl rfl rfl ?_
  rw [m_credenceref14_Check.eq_1] at hm
  have hst := St.start col w0
  replace h0 := h0.keep (Stay.start col w0)
  refine wseq ?_
  refine wregion ?_
  refine lv (v := (.int .i64 0)) rfl rfl (r_assign rfl) ?_
  refine lnil ?_
  refine wseq ?_
  refine wregion ?_
  refine lv (v := (.slice a0 p0_parents.length cap0)) rfl rfl (r_move rfl) ?_
  obtain ⟨r_1, hr_2, hm⟩ := bind_some hm
  refine lc rfl rfl (r_call1 Try.call35 rfl) (c_credenceref14_inside N (col0 col) _ a0 cap0 p0_parents h0 r_1 hr_2) ?_
  rintro _ w_3 ⟨rfl, hg_4⟩
  refine ⟨_, rfl, ?_⟩
  replace hg_4 : Grow (col0 col) w0 (col0 col) w_3 := .of_below hg_4
  replace h0 := h0.gr hg_4
  replace hst := hst.grow hg_4
  refine lv (v := (.bool r_1)) rfl rfl (r_assign rfl) ?_
  refine lnil ?_
  refine wseq ?_
  refine wseq ?_
  refine wregion ?_
  refine lv (v := (.bool r_1)) rfl rfl (r_move rfl) ?_
  refine lv (v := (.bool (!r_1))) rfl rfl (r_not r_1 rfl) ?_
  refine lnil ?_
  refine wcond (!r_1) rfl (fun hb => ?_) (fun hb => ?_)
  · rw [if_pos hb] at hm
    clear hb
    refine wseq ?_
    refine wregion ?_
    refine lv (v := (.int .i64 3)) rfl rfl (r_assign rfl) ?_
    refine lnil ?_
    refine wret ?_
    cases hm
    exact ⟨rfl, rfl, hst.below⟩
  · rw [if_neg (by rw [hb]; decide)] at hm
    clear hb
    refine wskip ?_
    refine wseq ?_
    refine wregion ?_
    refine lv (v := (.slice a0 p0_parents.length cap0)) rfl rfl (r_move rfl) ?_
    obtain ⟨r_5, hr_6, hm⟩ := bind_some hm
    refine lc rfl rfl (r_call1 Try.call36 rfl) (c_credenceref14_twice N (col0 col) _ a0 cap0 p0_parents h0 r_5 hr_6) ?_
    rintro _ w_7 ⟨rfl, hg_8⟩
    refine ⟨_, rfl, ?_⟩
    replace hg_8 : Grow (col0 col) w_3 (col0 col) w_7 := .of_below hg_8
    replace h0 := h0.gr hg_8
    replace hst := hst.grow hg_8
    refine lv (v := (.bool r_5)) rfl rfl (r_assign rfl) ?_
    refine lnil ?_
    refine wseq ?_
    refine wseq ?_
    refine wregion ?_
    refine lv (v := (.bool r_5)) rfl rfl (r_move rfl) ?_
    refine lnil ?_
    refine wcond (r_5) rfl (fun hb => ?_) (fun hb => ?_)
    · rw [if_pos hb] at hm
      clear hb
      refine wseq ?_
      refine wregion ?_
      refine lv (v := (.int .i64 40)) rfl rfl (r_assign rfl) ?_
      refine lnil ?_
      refine wret ?_
      cases hm
      exact ⟨rfl, rfl, hst.below⟩
    · rw [if_neg (by rw [hb]; decide)] at hm
      clear hb
      refine wskip ?_
      refine wseq ?_
      refine wseq ?_
      refine wregion ?_
      refine lv (v := (.slice a0 p0_parents.length cap0)) rfl rfl (r_move rfl) ?_
      obtain ⟨r_9, hr_10, hm⟩ := bind_some hm
      refine lc rfl rfl (r_call1 Try.call37 rfl) (c_credenceref14_out N 1 (col0 col) _ a0 cap0 p0_parents h0 r_9 hr_10) ?_
      rintro _ w_14 ⟨col_16, ra_11, rc_12, rfl, hg_15, rh_13⟩
      refine ⟨_, rfl, ?_⟩
      replace h0 := h0.gr hg_15
      replace hst := hst.grow hg_15
      refine lv (v := (.int .i64 (r_9.length : Int))) rfl rfl (r_len Try.underlying31 rfl) ?_
      refine lv (v := (.slice a0 p0_parents.length cap0)) rfl rfl (r_move rfl) ?_
      refine lv (v := (.int .i64 (p0_parents.length : Int))) rfl rfl (r_len Try.underlying22 rfl) ?_
      refine lv (v := (.bool (decide ((r_9.length : Int) < (p0_parents.length : Int))))) rfl rfl (r_lss (r_9.length : Int) (p0_parents.length : Int) rfl rfl) ?_
      refine lnil ?_
      refine wcond (decide ((r_9.length : Int) < (p0_parents.length : Int))) rfl (fun hb => ?_) (fun hb => ?_)
      · rw [if_pos hb] at hm
        clear hb
        refine wseq ?_
        refine wregion ?_
        refine lv (v := (.int .i64 42)) rfl rfl (r_assign rfl) ?_
        refine lnil ?_
        refine wret ?_
        cases hm
        exact ⟨rfl, rfl, hst.below⟩
      · rw [if_neg (by rw [hb]; decide)] at hm
        clear hb
        refine wskip ?_
        refine wseq ?_
        refine wregion ?_
        refine lv (v := (.int .i64 0)) rfl rfl (r_assign rfl) ?_
        refine lnil ?_
        refine wret ?_
        cases hm
        exact ⟨rfl, rfl, hst.below⟩





def m_dag_fits_L3 (kk_L2 : (Option Int)) : List Int → (List (Int × Int)) → Option Int
  | [], seen_28 => kk_L2 
  | x_30 :: l_31, seen_28 => if (decide (0 < ((mget seen_28 x_30).getD 0))) = true then (some 40) else ((some (mput seen_28 x_30 1)).bind fun es_36 => (m_dag_fits_L3 kk_L2 l_31) es_36)

def m_dag_fits_L2  : List (List Int) → Option Int
  | [] => some 0
  | x_11 :: l_12 => m_dag_fits_L3 (m_dag_fits_L2 l_12) x_11 ([] : List (Int × Int))

def m_dag_fits_J1 (kk_L4 : (Option Int)) (v_52 : Bool) : Option Int :=
  if v_52 = true then (some 3) else kk_L4

def m_dag_fits_L4 (p0_parents : (List (List Int))) (kk_L1 : (Option Int)) : List Int → Option Int
  | [] => kk_L1 
  | x_47 :: l_48 => if (decide (x_47 < 0)) = true then (m_dag_fits_J1 (m_dag_fits_L4 p0_parents kk_L1 l_48) true) else (m_dag_fits_J1 (m_dag_fits_L4 p0_parents kk_L1 l_48) (decide ((p0_parents.length : Int) ≤ x_47)))

def m_dag_fits_L1 (p0_parents : (List (List Int))) : List (List Int) → Option Int
  | [] => m_dag_fits_L2 p0_parents 
  | x_5 :: l_6 => m_dag_fits_L4 p0_parents (m_dag_fits_L1 p0_parents l_6) x_5 

def m_dag_fits (p0_parents : (List (List Int))) : Option Int :=
  m_dag_fits_L1 p0_parents p0_parents 

set_option maxRecDepth 100000 in
theorem c_dag_fits (col : Col) (w0 : World) (a0 : Option Addr) (cap0 : Nat) (p0_parents : (List (List Int))) (h0 : Sl (Rep.slice (Rep.int .i64)) col w0 a0 cap0 p0_parents) (r : Int) (hm : m_dag_fits p0_parents = some r) :
    Calls Try.prog 27 #[(.slice a0 p0_parents.length cap0)] w0 (fun e w' => e = .returned ((.int .i64 r)) ∧ Below w0.heap.size w0 w') := by
  refine calls_of1 2 (m := 57) (args := [(.slice a0 p0_parents.length cap0)]) Try.func27 rfl rfl rfl rfl rfl ?_
  rw [m_dag_fits.eq_1] at hm
  have hst := St.start col w0
  replace h0 := h0.keep (Stay.start col w0)
  refine wseq ?_
  refine wregion ?_
  refine lv (v := (.int .i64 0)) rfl rfl (r_assign rfl) ?_
  refine lnil ?_
  refine wseq ?_
  refine wseq ?_
  refine wregion ?_
  refine lv (v := (.slice a0 p0_parents.length cap0)) rfl rfl (r_move rfl) ?_
  refine lv (v := (.int .i64 (p0_parents.length : Int))) rfl rfl (r_len Try.underlying22 rfl) ?_
  refine lv (v := (.int .i64 0)) rfl rfl (r_move rfl) ?_
  refine lnil ?_
  refine wblock ?_
  refine wloop (fun n f w_3 => ∃ (col_4 : Col) (k_1 : Nat) (l_2 : List (List Int)), n = l_2.length ∧ p0_parents.drop k_1 = l_2 ∧ m_dag_fits_L1 p0_parents l_2  = some r ∧ St w0 (col0 col) col_4 w_3 ∧ Sl (Rep.slice (Rep.int .i64)) col_4 w_3 a0 cap0 p0_parents ∧ f 14 = (.int .i64 (k_1 : Int)) ∧ f 0 = (.slice a0 p0_parents.length cap0) ∧ f 12 = (.slice a0 p0_parents.length cap0) ∧ f 13 = (.int .i64 (p0_parents.length : Int)) ∧ f 1000000 = (enc [])) p0_parents.length ⟨(col0 col), 0, p0_parents, rfl, rfl, hm, hst, h0, rfl, rfl, rfl, rfl, rfl⟩ ?_
  clear hm; intro n f w_3 hI
  obtain ⟨col_4, k_1, l_2, hn, hl, hm, hst, h0, hs14, hs0, hs12, hs13, hs1000000⟩ := hI
  subst hn
  refine .ld (d := 14) (v := (.int .i64 (k_1 : Int))) hs14 ?_
  refine .ld (d := 0) (v := (.slice a0 p0_parents.length cap0)) hs0 ?_
  refine .ld (d := 12) (v := (.slice a0 p0_parents.length cap0)) hs12 ?_
  refine .ld (d := 13) (v := (.int .i64 (p0_parents.length : Int))) hs13 ?_
  refine .ld (d := 1000000) (v := (enc [])) hs1000000 ?_
  clear hs14 hs0 hs12 hs13 hs1000000
  cases l_2 with
  | nil =>
    have hk : ¬ ((k_1 : Int) < (p0_parents.length : Int)) := by have := List.drop_eq_nil_iff.1 hl; omega
    have hkb := decide_eq_false hk
    rw [m_dag_fits_L1.eq_1] at hm
    refine wseq ?_
    refine wregion ?_
    refine lv (v := (.bool (decide ((k_1 : Int) < (p0_parents.length : Int))))) rfl rfl (r_lss (k_1 : Int) (p0_parents.length : Int) rfl rfl) ?_
    refine lnil ?_
    refine wseq ?_
    refine wcondF (congrArg Value.bool hkb) ?_
    refine wexit (inB_hit ?_)
    refine wseq ?_
    refine wseq ?_
    refine wregion ?_
    refine lv (v := (.slice a0 p0_parents.length cap0)) rfl rfl (r_move rfl) ?_
    refine lv (v := (.int .i64 (p0_parents.length : Int))) rfl rfl (r_len Try.underlying22 rfl) ?_
    refine lv (v := (.int .i64 0)) rfl rfl (r_move rfl) ?_
    refine lnil ?_
    refine wblock ?_
    refine wloop (fun n f w_9 => ∃ (col_10 : Col) (k_7 : Nat) (l_8 : List (List Int)), n = l_8.length ∧ p0_parents.drop k_7 = l_8 ∧ m_dag_fits_L2 l_8  = some r ∧ St w0 (col0 col) col_10 w_9 ∧ Sl (Rep.slice (Rep.int .i64)) col_10 w_9 a0 cap0 p0_parents ∧ f 36 = (.int .i64 (k_7 : Int)) ∧ f 34 = (.slice a0 p0_parents.length cap0) ∧ f 35 = (.int .i64 (p0_parents.length : Int)) ∧ f 1000000 = (enc [])) p0_parents.length ⟨col_4, 0, p0_parents, rfl, rfl, hm, hst, h0, rfl, rfl, rfl, rfl⟩ ?_
    clear hm; intro n f w_9 hI
    obtain ⟨col_10, k_7, l_8, hn, hl, hm, hst, h0, hs36, hs34, hs35, hs1000000⟩ := hI
    subst hn
    refine .ld (d := 36) (v := (.int .i64 (k_7 : Int))) hs36 ?_
    refine .ld (d := 34) (v := (.slice a0 p0_parents.length cap0)) hs34 ?_
    refine .ld (d := 35) (v := (.int .i64 (p0_parents.length : Int))) hs35 ?_
    refine .ld (d := 1000000) (v := (enc [])) hs1000000 ?_
    clear hs36 hs34 hs35 hs1000000
    cases l_8 with
    | nil =>
      have hk : ¬ ((k_7 : Int) < (p0_parents.length : Int)) := by have := List.drop_eq_nil_iff.1 hl; omega
      have hkb := decide_eq_false hk
      rw [m_dag_fits_L2.eq_1] at hm
      refine wseq ?_
      refine wregion ?_
      refine lv (v := (.bool (decide ((k_7 : Int) < (p0_parents.length : Int))))) rfl rfl (r_lss (k_7 : Int) (p0_parents.length : Int) rfl rfl) ?_
      refine lnil ?_
      refine wseq ?_
      refine wcondF (congrArg Value.bool hkb) ?_
      refine wexit (inB_hit ?_)
      refine wseq ?_
      refine wregion ?_
      refine lv (v := (.int .i64 0)) rfl rfl (r_assign rfl) ?_
      refine lnil ?_
      refine wret ?_
      cases hm
      exact ⟨rfl, rfl, hst.below⟩
    | cons x_11 l_12 =>
      obtain ⟨hat, hl2, hlt⟩ := drop_get hl
      have hk : (k_7 : Int) < (p0_parents.length : Int) := by omega
      have hkb := decide_eq_true hk
      rw [m_dag_fits_L2.eq_2] at hm
      refine wseq ?_
      refine wregion ?_
      refine lv (v := (.bool (decide ((k_7 : Int) < (p0_parents.length : Int))))) rfl rfl (r_lss (k_7 : Int) (p0_parents.length : Int) rfl rfl) ?_
      refine lnil ?_
      refine wseq ?_
      refine wcondT (congrArg Value.bool hkb) ?_
      refine wskip ?_
      refine wseq ?_
      refine wblock ?_
      refine wseq ?_
      refine wregion ?_
      refine lv (v := (sptr a0 (Int.toNat (k_7 : Int) * 1))) rfl rfl (r_idx Try.underlying22 Try.sizeOf31 rfl rfl (at?_some hat).1 (at?_some hat).2.1 (h0.addr hat)) ?_
      obtain ⟨_, hr_13, hA_14⟩ := h0.atN hat
      obtain ⟨⟨a_15, cap_16, rfl, h_17⟩, _⟩ := hr_13
      refine lv (v := (.slice a_15 x_11.length cap_16)) rfl rfl (r_ld Try.isAgg31 rfl hA_14.one) ?_
      refine lv (v := (.slice a_15 x_11.length cap_16)) rfl rfl (r_assign rfl) ?_
      refine lnil ?_
      refine wseq ?_
      refine wregion ?_
      refine lv (v := (.slice a_15 x_11.length cap_16)) rfl rfl (r_move rfl) ?_
      refine lv (v := (.int .i64 (x_11.length : Int))) rfl rfl (r_len Try.underlying31 rfl) ?_
      refine l_makeMapN (col := col_10) (fk := (Value.int .i64)) (fv := (Value.int .i64)) 1 rfl Try.underlying51 rfl ?_
      intro g_18 w_19 col_20 hg_21 h_22
      replace h0 := h0.gr hg_21
      replace h_17 := h_17.gr hg_21
      replace hst := hst.grow hg_21
      refine lv (v := (.map (some g_18))) rfl rfl (r_assign rfl) ?_
      refine lnil ?_
      refine wseq ?_
      refine wregion ?_
      refine lv (v := (.slice a_15 x_11.length cap_16)) rfl rfl (r_move rfl) ?_
      refine lv (v := (.int .i64 (x_11.length : Int))) rfl rfl (r_len Try.underlying31 rfl) ?_
      refine lv (v := (.int .i64 0)) rfl rfl (r_move rfl) ?_
      refine lnil ?_
      refine wblock ?_
      refine wloop (fun n f w_25 => ∃ (col_26 : Col) (k_23 : Nat) (g_27 : Nat) (seen_28 : List (Int × Int)) (l_24 : List Int), n = l_24.length ∧ x_11.drop k_23 = l_24 ∧ m_dag_fits_L3 (m_dag_fits_L2 l_12) l_24 seen_28 = some r ∧ St w0 (col0 col) col_26 w_25 ∧ Sl (Rep.slice (Rep.int .i64)) col_26 w_25 a0 cap0 p0_parents ∧ Sl (Rep.int .i64) col_26 w_25 a_15 cap_16 x_11 ∧ MapO (Value.int .i64) (Value.int .i64) 1 col_26 w_25 g_27 seen_28 ∧ f 45 = (.int .i64 (k_23 : Int)) ∧ f 34 = (.slice a0 p0_parents.length cap0) ∧ f 35 = (.int .i64 (p0_parents.length : Int)) ∧ f 36 = (.int .i64 (k_7 : Int)) ∧ f 43 = (.slice a_15 x_11.length cap_16) ∧ f 44 = (.int .i64 (x_11.length : Int)) ∧ f 9 = (.map (some g_27)) ∧ f 1000000 = (enc [])) x_11.length ⟨col_20, 0, g_18, ([] : List (Int × Int)), x_11, rfl, rfl, hm, hst, h0, h_17, h_22, rfl, rfl, rfl, rfl, rfl, rfl, rfl, rfl⟩ ?_
      clear hm; intro n f w_25 hI
      obtain ⟨col_26, k_23, g_27, seen_28, l_24, hn, hl, hm, hst, h0, h_17, h_29, hs45, hs34, hs35, hs36, hs43, hs44, hs9, hs1000000⟩ := hI
      subst hn
      refine .ld (d := 45) (v := (.int .i64 (k_23 : Int))) hs45 ?_
      refine .ld (d := 34) (v := (.slice a0 p0_parents.length cap0)) hs34 ?_
      refine .ld (d := 35) (v := (.int .i64 (p0_parents.length : Int))) hs35 ?_
      refine .ld (d := 36) (v := (.int .i64 (k_7 : Int))) hs36 ?_
      refine .ld (d := 43) (v := (.slice a_15 x_11.length cap_16)) hs43 ?_
      refine .ld (d := 44) (v := (.int .i64 (x_11.length : Int))) hs44 ?_
      refine .ld (d := 9) (v := (.map (some g_27))) hs9 ?_
      refine .ld (d := 1000000) (v := (enc [])) hs1000000 ?_
      clear hs45 hs34 hs35 hs36 hs43 hs44 hs9 hs1000000
      cases l_24 with
      | nil =>
        have hk : ¬ ((k_23 : Int) < (x_11.length : Int)) := by have := List.drop_eq_nil_iff.1 hl; omega
        have hkb := decide_eq_false hk
        rw [m_dag_fits_L3.eq_1] at hm
        refine wseq ?_
        refine wregion ?_
        refine lv (v := (.bool (decide ((k_23 : Int) < (x_11.length : Int))))) rfl rfl (r_lss (k_23 : Int) (x_11.length : Int) rfl rfl) ?_
        refine lnil ?_
        refine wseq ?_
        refine wcondF (congrArg Value.bool hkb) ?_
        refine wexit (inB_hit ?_)
        refine wregion ?_
        refine lv (v := (.int .i64 (IntKind.i64.wrap ((k_7 : Int) + 1)))) rfl rfl (r_add (k_7 : Int) 1 rfl rfl) ?_
        refine lv (v := (.int .i64 (IntKind.i64.wrap ((k_7 : Int) + 1)))) rfl rfl (r_move rfl) ?_
        refine lnil ?_
        exact ⟨l_12.length, by simp, ⟨col_26, (k_7 + 1), l_12, rfl, hl2, hm, hst, h0, (congrArg (Value.int .i64) (wrap_succ (Nat.lt_of_lt_of_le hlt h0.1.1))), rfl, rfl, rfl⟩⟩
      | cons x_30 l_31 =>
        obtain ⟨hat, hl2, hlt⟩ := drop_get hl
        have hk : (k_23 : Int) < (x_11.length : Int) := by omega
        have hkb := decide_eq_true hk
        rw [m_dag_fits_L3.eq_2] at hm
        refine wseq ?_
        refine wregion ?_
        refine lv (v := (.bool (decide ((k_23 : Int) < (x_11.length : Int))))) rfl rfl (r_lss (k_23 : Int) (x_11.length : Int) rfl rfl) ?_
        refine lnil ?_
        refine wseq ?_
        refine wcondT (congrArg Value.bool hkb) ?_
        refine wskip ?_
        refine wseq ?_
        refine wblock ?_
        refine wseq ?_
        refine wregion ?_
        refine lv (v := (sptr a_15 (Int.toNat (k_23 : Int) * 1))) rfl rfl (r_idx Try.underlying31 Try.sizeOf3 rfl rfl (at?_some hat).1 (at?_some hat).2.1 (h_17.addr hat)) ?_
        refine lv (v := (.int .i64 x_30)) rfl rfl (r_ld Try.isAgg3 rfl (h_17.atInt hat)) ?_
        refine lv (v := (.int .i64 x_30)) rfl rfl (r_assign rfl) ?_
        refine lnil ?_
        refine wseq ?_
        refine wseq ?_
        refine wregion ?_
        refine lv (v := (.map (some g_27))) rfl rfl (r_move rfl) ?_
        refine lv (v := (.int .i64 x_30)) rfl rfl (r_move rfl) ?_
        refine lv (v := (.int .i64 ((mget seen_28 x_30).getD 0))) rfl rfl (r_lookup KeyD.int h_29 Try.underlying51 Try.underlying3 Try.zeroValue3 rfl rfl) ?_
        refine lv (v := (.bool (decide (0 < ((mget seen_28 x_30).getD 0))))) rfl rfl (r_gtr ((mget seen_28 x_30).getD 0) 0 rfl rfl) ?_
        refine lnil ?_
        refine wcond (decide (0 < ((mget seen_28 x_30).getD 0))) rfl (fun hb => ?_) (fun hb => ?_)
        · rw [if_pos hb] at hm
          clear hb
          refine wseq ?_
          refine wregion ?_
          refine lv (v := (.int .i64 40)) rfl rfl (r_assign rfl) ?_
          refine lnil ?_
          refine wret ?_
          cases hm
          exact ⟨rfl, rfl, hst.below⟩
        · rw [if_neg (by rw [hb]; decide)] at hm
          clear hb
          refine wskip ?_
          refine wregion ?_
          refine lv (v := (.map (some g_27))) rfl rfl (r_move rfl) ?_
          refine lv (v := (.int .i64 x_30)) rfl rfl (r_move rfl) ?_
          obtain ⟨es_36, hz_37, hm⟩ := bind_some hm
          have hz_37 : es_36 = mput seen_28 x_30 1 := (Option.some.inj hz_37).symm
          refine l_mapUpdate (k := x_30) (v := 1) KeyD.int h_29 Try.underlying51 Try.underlying3 rfl rfl rfl ?_
          intro w_32 hk_33 hs_34 h_35
          rw [← hz_37] at h_35
          clear hz_37
          replace h0 := h0.kp hk_33 (by decide)
          replace h_17 := h_17.kp hk_33 (by decide)
          replace hst := hst.kp hk_33 hs_34 (by decide) (by decide)
          clear h_29
          refine lnil ?_
          refine wregion ?_
          refine lv (v := (.int .i64 (IntKind.i64.wrap ((k_23 : Int) + 1)))) rfl rfl (r_add (k_23 : Int) 1 rfl rfl) ?_
          refine lv (v := (.int .i64 (IntKind.i64.wrap ((k_23 : Int) + 1)))) rfl rfl (r_move rfl) ?_
          refine lnil ?_
          exact ⟨l_31.length, by simp, ⟨col_26, (k_23 + 1), g_27, es_36, l_31, rfl, hl2, hm, hst, h0, h_17, h_35, (congrArg (Value.int .i64) (wrap_succ (Nat.lt_of_lt_of_le hlt h_17.1.1))), rfl, rfl, rfl, rfl, rfl, rfl, rfl⟩⟩
  | cons x_5 l_6 =>
    obtain ⟨hat, hl2, hlt⟩ := drop_get hl
    have hk : (k_1 : Int) < (p0_parents.length : Int) := by omega
    have hkb := decide_eq_true hk
    rw [m_dag_fits_L1.eq_2] at hm
    refine wseq ?_
    refine wregion ?_
    refine lv (v := (.bool (decide ((k_1 : Int) < (p0_parents.length : Int))))) rfl rfl (r_lss (k_1 : Int) (p0_parents.length : Int) rfl rfl) ?_
    refine lnil ?_
    refine wseq ?_
    refine wcondT (congrArg Value.bool hkb) ?_
    refine wskip ?_
    refine wseq ?_
    refine wblock ?_
    refine wseq ?_
    refine wregion ?_
    refine lv (v := (sptr a0 (Int.toNat (k_1 : Int) * 1))) rfl rfl (r_idx Try.underlying22 Try.sizeOf31 rfl rfl (at?_some hat).1 (at?_some hat).2.1 (h0.addr hat)) ?_
    obtain ⟨_, hr_38, hA_39⟩ := h0.atN hat
    obtain ⟨⟨a_40, cap_41, rfl, h_42⟩, _⟩ := hr_38
    refine lv (v := (.slice a_40 x_5.length cap_41)) rfl rfl (r_ld Try.isAgg31 rfl hA_39.one) ?_
    refine lv (v := (.slice a_40 x_5.length cap_41)) rfl rfl (r_assign rfl) ?_
    refine lnil ?_
    refine wseq ?_
    refine wregion ?_
    refine lv (v := (.slice a_40 x_5.length cap_41)) rfl rfl (r_move rfl) ?_
    refine lv (v := (.int .i64 (x_5.length : Int))) rfl rfl (r_len Try.underlying31 rfl) ?_
    refine lv (v := (.int .i64 0)) rfl rfl (r_move rfl) ?_
    refine lnil ?_
    refine wblock ?_
    refine wloop (fun n f w_45 => ∃ (col_46 : Col) (k_43 : Nat) (l_44 : List Int), n = l_44.length ∧ x_5.drop k_43 = l_44 ∧ m_dag_fits_L4 p0_parents (m_dag_fits_L1 p0_parents l_6) l_44  = some r ∧ St w0 (col0 col) col_46 w_45 ∧ Sl (Rep.slice (Rep.int .i64)) col_46 w_45 a0 cap0 p0_parents ∧ Sl (Rep.int .i64) col_46 w_45 a_40 cap_41 x_5 ∧ f 20 = (.int .i64 (k_43 : Int)) ∧ f 0 = (.slice a0 p0_parents.length cap0) ∧ f 12 = (.slice a0 p0_parents.length cap0) ∧ f 13 = (.int .i64 (p0_parents.length : Int)) ∧ f 14 = (.int .i64 (k_1 : Int)) ∧ f 18 = (.slice a_40 x_5.length cap_41) ∧ f 19 = (.int .i64 (x_5.length : Int)) ∧ f 1000000 = (enc [])) x_5.length ⟨col_4, 0, x_5, rfl, rfl, hm, hst, h0, h_42, rfl, rfl, rfl, rfl, rfl, rfl, rfl, rfl⟩ ?_
    clear hm; intro n f w_45 hI
    obtain ⟨col_46, k_43, l_44, hn, hl, hm, hst, h0, h_42, hs20, hs0, hs12, hs13, hs14, hs18, hs19, hs1000000⟩ := hI
    subst hn
    refine .ld (d := 20) (v := (.int .i64 (k_43 : Int))) hs20 ?_
    refine .ld (d := 0) (v := (.slice a0 p0_parents.length cap0)) hs0 ?_
    refine .ld (d := 12) (v := (.slice a0 p0_parents.length cap0)) hs12 ?_
    refine .ld (d := 13) (v := (.int .i64 (p0_parents.length : Int))) hs13 ?_
    refine .ld (d := 14) (v := (.int .i64 (k_1 : Int))) hs14 ?_
    refine .ld (d := 18) (v := (.slice a_40 x_5.length cap_41)) hs18 ?_
    refine .ld (d := 19) (v := (.int .i64 (x_5.length : Int))) hs19 ?_
    refine .ld (d := 1000000) (v := (enc [])) hs1000000 ?_
    clear hs20 hs0 hs12 hs13 hs14 hs18 hs19 hs1000000
    cases l_44 with
    | nil =>
      have hk : ¬ ((k_43 : Int) < (x_5.length : Int)) := by have := List.drop_eq_nil_iff.1 hl; omega
      have hkb := decide_eq_false hk
      rw [m_dag_fits_L4.eq_1] at hm
      refine wseq ?_
      refine wregion ?_
      refine lv (v := (.bool (decide ((k_43 : Int) < (x_5.length : Int))))) rfl rfl (r_lss (k_43 : Int) (x_5.length : Int) rfl rfl) ?_
      refine lnil ?_
      refine wseq ?_
      refine wcondF (congrArg Value.bool hkb) ?_
      refine wexit (inB_hit ?_)
      refine wregion ?_
      refine lv (v := (.int .i64 (IntKind.i64.wrap ((k_1 : Int) + 1)))) rfl rfl (r_add (k_1 : Int) 1 rfl rfl) ?_
      refine lv (v := (.int .i64 (IntKind.i64.wrap ((k_1 : Int) + 1)))) rfl rfl (r_move rfl) ?_
      refine lnil ?_
      exact ⟨l_6.length, by simp, ⟨col_46, (k_1 + 1), l_6, rfl, hl2, hm, hst, h0, (congrArg (Value.int .i64) (wrap_succ (Nat.lt_of_lt_of_le hlt h0.1.1))), rfl, rfl, rfl, rfl⟩⟩
    | cons x_47 l_48 =>
      obtain ⟨hat, hl2, hlt⟩ := drop_get hl
      have hk : (k_43 : Int) < (x_5.length : Int) := by omega
      have hkb := decide_eq_true hk
      rw [m_dag_fits_L4.eq_2] at hm
      refine wseq ?_
      refine wregion ?_
      refine lv (v := (.bool (decide ((k_43 : Int) < (x_5.length : Int))))) rfl rfl (r_lss (k_43 : Int) (x_5.length : Int) rfl rfl) ?_
      refine lnil ?_
      refine wseq ?_
      refine wcondT (congrArg Value.bool hkb) ?_
      refine wskip ?_
      refine wseq ?_
      refine wblock ?_
      refine wseq ?_
      refine wregion ?_
      refine lv (v := (sptr a_40 (Int.toNat (k_43 : Int) * 1))) rfl rfl (r_idx Try.underlying31 Try.sizeOf3 rfl rfl (at?_some hat).1 (at?_some hat).2.1 (h_42.addr hat)) ?_
      refine lv (v := (.int .i64 x_47)) rfl rfl (r_ld Try.isAgg3 rfl (h_42.atInt hat)) ?_
      refine lv (v := (.int .i64 x_47)) rfl rfl (r_assign rfl) ?_
      refine lnil ?_
      refine wseq ?_
      refine Wp.cut (fun f w_50 => ∃ (col_51 : Col) (v_52 : Bool), m_dag_fits_J1 (m_dag_fits_L4 p0_parents (m_dag_fits_L1 p0_parents l_6) l_48) v_52 = some r ∧ St w0 (col0 col) col_51 w_50 ∧ Sl (Rep.slice (Rep.int .i64)) col_51 w_50 a0 cap0 p0_parents ∧ Sl (Rep.int .i64) col_51 w_50 a_40 cap_41 x_5 ∧ f 0 = (.slice a0 p0_parents.length cap0) ∧ f 12 = (.slice a0 p0_parents.length cap0) ∧ f 13 = (.int .i64 (p0_parents.length : Int)) ∧ f 14 = (.int .i64 (k_1 : Int)) ∧ f 18 = (.slice a_40 x_5.length cap_41) ∧ f 19 = (.int .i64 (x_5.length : Int)) ∧ f 20 = (.int .i64 (k_43 : Int)) ∧ f 31 = (.bool v_52) ∧ f 1000000 = (enc [])) ?_ ?_
      · intro f w_50 hJ
        obtain ⟨col_51, v_52, hm, hst, h0, h_42, hs0, hs12, hs13, hs14, hs18, hs19, hs20, hs31, hs1000000⟩ := hJ
        rw [m_dag_fits_J1.eq_1] at hm
        refine .ld (d := 0) (v := (.slice a0 p0_parents.length cap0)) hs0 ?_
        refine .ld (d := 12) (v := (.slice a0 p0_parents.length cap0)) hs12 ?_
        refine .ld (d := 13) (v := (.int .i64 (p0_parents.length : Int))) hs13 ?_
        refine .ld (d := 14) (v := (.int .i64 (k_1 : Int))) hs14 ?_
        refine .ld (d := 18) (v := (.slice a_40 x_5.length cap_41)) hs18 ?_
        refine .ld (d := 19) (v := (.int .i64 (x_5.length : Int))) hs19 ?_
        refine .ld (d := 20) (v := (.int .i64 (k_43 : Int))) hs20 ?_
        refine .ld (d := 31) (v := (.bool v_52)) hs31 ?_
        refine .ld (d := 1000000) (v := (enc [])) hs1000000 ?_
        clear hs0 hs12 hs13 hs14 hs18 hs19 hs20 hs31 hs1000000
        refine wcond (v_52) rfl (fun hb => ?_) (fun hb => ?_)
        · rw [if_pos hb] at hm
          clear hb
          refine wseq ?_
          refine wregion ?_
          refine lv (v := (.int .i64 3)) rfl rfl (r_assign rfl) ?_
          refine lnil ?_
          refine wret ?_
          cases hm
          exact ⟨rfl, rfl, hst.below⟩
        · rw [if_neg (by rw [hb]; decide)] at hm
          clear hb
          refine wskip ?_
          refine wregion ?_
          refine lv (v := (.int .i64 (IntKind.i64.wrap ((k_43 : Int) + 1)))) rfl rfl (r_add (k_43 : Int) 1 rfl rfl) ?_
          refine lv (v := (.int .i64 (IntKind.i64.wrap ((k_43 : Int) + 1)))) rfl rfl (r_move rfl) ?_
          refine lnil ?_
          exact ⟨l_48.length, by simp, ⟨col_51, (k_43 + 1), l_48, rfl, hl2, hm, hst, h0, h_42, (congrArg (Value.int .i64) (wrap_succ (Nat.lt_of_lt_of_le hlt h_42.1.1))), rfl, rfl, rfl, rfl, rfl, rfl, rfl⟩⟩
      · refine wregion ?_
        refine lv (v := (.int .i64 x_47)) rfl rfl (r_move rfl) ?_
        refine lv (v := (.bool (decide (x_47 < 0)))) rfl rfl (r_lss x_47 0 rfl rfl) ?_
        refine lv (v := (.bool (decide (x_47 < 0)))) rfl rfl (r_move rfl) ?_
        by_cases hg_53 : (decide (x_47 < 0)) = true
        · rw [if_pos hg_53] at hm
          refine lp (b := decide (x_47 < 0)) 26 rfl rfl rfl rfl (by rw [hg_53]; rfl) ?_
          refine lp (b := decide (x_47 < 0)) 26 rfl rfl rfl rfl (by rw [hg_53]; rfl) ?_
          refine lp (b := decide (x_47 < 0)) 26 rfl rfl rfl rfl (by rw [hg_53]; rfl) ?_
          refine lp (b := decide (x_47 < 0)) 26 rfl rfl rfl rfl (by rw [hg_53]; rfl) ?_
          refine lv (v := (.bool true)) rfl rfl (r_pickT (congrArg Value.bool hg_53) rfl) ?_
          refine lnil ?_
          exact ⟨col_46, true, hm, hst, h0, h_42, rfl, rfl, rfl, rfl, rfl, rfl, rfl, rfl, rfl⟩
        · rw [if_neg hg_53] at hm
          replace hg_53 := Bool.eq_false_iff.2 hg_53
          refine lg (b := decide (x_47 < 0)) 26 rfl rfl rfl (by rw [hg_53]; rfl) ?_
          refine lv (v := (.int .i64 x_47)) rfl rfl (r_move rfl) ?_
          refine lg (b := decide (x_47 < 0)) 26 rfl rfl rfl (by rw [hg_53]; rfl) ?_
          refine lv (v := (.slice a0 p0_parents.length cap0)) rfl rfl (r_move rfl) ?_
          refine lg (b := decide (x_47 < 0)) 26 rfl rfl rfl (by rw [hg_53]; rfl) ?_
          refine lv (v := (.int .i64 (p0_parents.length : Int))) rfl rfl (r_len Try.underlying22 rfl) ?_
          refine lg (b := decide (x_47 < 0)) 26 rfl rfl rfl (by rw [hg_53]; rfl) ?_
          refine lv (v := (.bool (decide ((p0_parents.length : Int) ≤ x_47)))) rfl rfl (r_geq x_47 (p0_parents.length : Int) rfl rfl) ?_
          refine lv (v := (.bool (decide ((p0_parents.length : Int) ≤ x_47)))) rfl rfl (r_pickF (congrArg Value.bool hg_53) rfl) ?_
          refine lnil ?_
          exact ⟨col_46, (decide ((p0_parents.length : Int) ≤ x_47)), hm, hst, h0, h_42, rfl, rfl, rfl, rfl, rfl, rfl, rfl, rfl, rfl⟩



theorem el3_29 : ElemOk Try.prog 3 1 8 := ⟨Try.t3, _, rfl, rfl, rfl, rfl, rfl⟩

def m_dag_children_L2 (k_7 : Nat) (kk_L1 : (Nat → (List (List Int)) → Option (List (List Int)))) : List Int → (List (List Int)) → Option (List (List Int))
  | [], out_26 => kk_L1 (k_7 + 1) out_26
  | x_30 :: l_31, out_26 => (at? out_26 x_30).bind fun e_32 => chk ((e_32.length + [(k_7 : Int)].length) * 8 ≤ 140737488355328 ∧ e_32.length + [(k_7 : Int)].length ≤ maxLen) ((m_dag_children_L2 k_7 kk_L1 l_31) (out_26.set (Int.toNat x_30) (e_32 ++ [(k_7 : Int)])))

def m_dag_children_L1  : List (List Int) → Nat → (List (List Int)) → Option (List (List Int))
  | [], k_7, out_11 => some out_11
  | x_15 :: l_16, k_7, out_11 => m_dag_children_L2 k_7 (m_dag_children_L1 l_16) x_15 out_11

def m_dag_children (p0_parents : (List (List Int))) : Option (List (List Int)) :=
  chk (p0_parents.length * 24 ≤ 281474976710656 ∧ p0_parents.length ≤ maxLen) (m_dag_children_L1 p0_parents 0 (List.replicate p0_parents.length (([] : List Int) : (List Int))))

set_option maxRecDepth 100000 in
theorem c_dag_children (c1 : Nat) (col : Col) (w0 : World) (a0 : Option Addr) (cap0 : Nat) (p0_parents : (List (List Int))) (h0 : Sl (Rep.slice (Rep.int .i64)) col w0 a0 cap0 p0_parents) (r : (List (List Int))) (hm : m_dag_children p0_parents = some r) :
    Calls Try.prog 29 #[(.slice a0 p0_parents.length cap0)] w0 (fun e w' => ∃ (col' : Col) (ra1 : Option Addr) (rc2 : Nat), e = .returned ((.slice ra1 r.length rc2)) ∧ Grow col w0 col' w' ∧ Own (Rep.row 3 (Rep.int .i64)) 31 c1 col' w' ra1 rc2 r) := by
  refine calls_of1 2 (m := 37) (args := [(.slice a0 p0_parents.length cap0)]) Try.func29 rfl rfl rfl rfl rfl ?_
  rw [m_dag_children.eq_1] at hm
  have hst := St.start col w0
  replace h0 := h0.keep (Stay.start col w0)
  refine wseq ?_
  refine wregion ?_
  refine lv (v := (.slice none (([] : List (List Int)).length) 0)) rfl rfl (r_assign rfl) ?_
  refine lnil ?_
  refine wseq ?_
  refine wregion ?_
  refine lv (v := (.slice a0 p0_parents.length cap0)) rfl rfl (r_move rfl) ?_
  refine lv (v := (.int .i64 (p0_parents.length : Int))) rfl rfl (r_len Try.underlying22 rfl) ?_
  obtain ⟨hb_1, hm⟩ := chk_some hm
  refine l_make (col := (col0 col)) (w := w0) (r := (Rep.row 3 (Rep.int .i64))) (n := p0_parents.length) (x0 := ([] : List Int)) 1 rfl Try.underlying22 Try.t31 rfl rfl rfl rfl rfl rfl rfl hb_1.1 hb_1.2 rd_nilrow ?_
  intro a_2 w_3 col_4 hg_5 h_6
  replace h0 := h0.gr hg_5
  replace hst := hst.grow hg_5
  refine lv (v := (.slice a_2 ((List.replicate p0_parents.length (([] : List Int) : (List Int))).length) p0_parents.length)) rfl rfl (r_assign rfl) ?_
  refine lnil ?_
  refine wseq ?_
  refine wseq ?_
  refine wregion ?_
  refine lv (v := (.slice a0 p0_parents.length cap0)) rfl rfl (r_move rfl) ?_
  refine lv (v := (.int .i64 (p0_parents.length : Int))) rfl rfl (r_len Try.underlying22 rfl) ?_
  refine lv (v := (.int .i64 0)) rfl rfl (r_move rfl) ?_
  refine lnil ?_
  refine wblock ?_
  refine wloop (fun n f w_9 => ∃ (col_10 : Col) (k_7 : Nat) (a_12 : Option Addr) (cap_13 : Nat) (out_11 : List (List Int)) (l_8 : List (List Int)), n = l_8.length ∧ p0_parents.drop k_7 = l_8 ∧ m_dag_children_L1 l_8 k_7 out_11 = some r ∧ St w0 (col0 col) col_10 w_9 ∧ Sl (Rep.slice (Rep.int .i64)) col_10 w_9 a0 cap0 p0_parents ∧ Own (Rep.row 3 (Rep.int .i64)) 31 1 col_10 w_9 a_12 cap_13 out_11 ∧ f 13 = (.int .i64 (k_7 : Int)) ∧ f 11 = (.slice a0 p0_parents.length cap0) ∧ f 12 = (.int .i64 (p0_parents.length : Int)) ∧ f 3 = (.slice a_12 out_11.length cap_13) ∧ f 1000000 = (enc [])) p0_parents.length ⟨col_4, 0, a_2, p0_parents.length, (List.replicate p0_parents.length (([] : List Int) : (List Int))), p0_parents, rfl, rfl, hm, hst, h0, h_6, rfl, rfl, rfl, rfl, rfl⟩ ?_
  clear hm; intro n f w_9 hI
  obtain ⟨col_10, k_7, a_12, cap_13, out_11, l_8, hn, hl, hm, hst, h0, h_14, hs13, hs11, hs12, hs3, hs1000000⟩ := hI
  subst hn
  refine .ld (d := 13) (v := (.int .i64 (k_7 : Int))) hs13 ?_
  refine .ld (d := 11) (v := (.slice a0 p0_parents.length cap0)) hs11 ?_
  refine .ld (d := 12) (v := (.int .i64 (p0_parents.length : Int))) hs12 ?_
  refine .ld (d := 3) (v := (.slice a_12 out_11.length cap_13)) hs3 ?_
  refine .ld (d := 1000000) (v := (enc [])) hs1000000 ?_
  clear hs13 hs11 hs12 hs3 hs1000000
  cases l_8 with
  | nil =>
    have hk : ¬ ((k_7 : Int) < (p0_parents.length : Int)) := by have := List.drop_eq_nil_iff.1 hl; omega
    have hkb := decide_eq_false hk
    rw [m_dag_children_L1.eq_1] at hm
    refine wseq ?_
    refine wregion ?_
    refine lv (v := (.bool (decide ((k_7 : Int) < (p0_parents.length : Int))))) rfl rfl (r_lss (k_7 : Int) (p0_parents.length : Int) rfl rfl) ?_
    refine lnil ?_
    refine wseq ?_
    refine wcondF (congrArg Value.bool hkb) ?_
    refine wexit (inB_hit ?_)
    refine wseq ?_
    refine wregion ?_
    refine lv (v := (.slice a_12 out_11.length cap_13)) rfl rfl (r_move rfl) ?_
    refine lv (v := (.slice a_12 out_11.length cap_13)) rfl rfl (r_assign rfl) ?_
    refine lnil ?_
    refine wret ?_
    cases hm
    exact ⟨rfl, colF w0.heap.size col col_10 (fun n => bif Nat.beq n 1 then c1 else 0), a_12, cap_13, rfl, hst.fin (fun n => bif Nat.beq n 1 then c1 else 0), hst.finOwn (g := (fun n => bif Nat.beq n 1 then c1 else 0)) rfl h_14 (by decide) (by decide) rfl⟩
  | cons x_15 l_16 =>
    obtain ⟨hat, hl2, hlt⟩ := drop_get hl
    have hk : (k_7 : Int) < (p0_parents.length : Int) := by omega
    have hkb := decide_eq_true hk
    rw [m_dag_children_L1.eq_2] at hm
    refine wseq ?_
    refine wregion ?_
    refine lv (v := (.bool (decide ((k_7 : Int) < (p0_parents.length : Int))))) rfl rfl (r_lss (k_7 : Int) (p0_parents.length : Int) rfl rfl) ?_
    refine lnil ?_
    refine wseq ?_
    refine wcondT (congrArg Value.bool hkb) ?_
    refine wskip ?_
    refine wseq ?_
    refine wblock ?_
    refine wseq ?_
    refine wregion ?_
    refine lv (v := (.int .i64 (k_7 : Int))) rfl rfl (r_move rfl) ?_
    refine lv (v := (sptr a0 (Int.toNat (k_7 : Int) * 1))) rfl rfl (r_idx Try.underlying22 Try.sizeOf31 rfl rfl (at?_some hat).1 (at?_some hat).2.1 (h0.addr hat)) ?_
    obtain ⟨_, hr_17, hA_18⟩ := h0.atN hat
    obtain ⟨⟨a_19, cap_20, rfl, h_21⟩, _⟩ := hr_17
    refine lv (v := (.slice a_19 x_15.length cap_20)) rfl rfl (r_ld Try.isAgg31 rfl hA_18.one) ?_
    refine lv (v := (.int .i64 (k_7 : Int))) rfl rfl (r_assign rfl) ?_
    refine lv (v := (.slice a_19 x_15.length cap_20)) rfl rfl (r_assign rfl) ?_
    refine lnil ?_
    refine wseq ?_
    refine wregion ?_
    refine lv (v := (.slice a_19 x_15.length cap_20)) rfl rfl (r_move rfl) ?_
    refine lv (v := (.int .i64 (x_15.length : Int))) rfl rfl (r_len Try.underlying31 rfl) ?_
    refine lv (v := (.int .i64 0)) rfl rfl (r_move rfl) ?_
    refine lnil ?_
    refine wblock ?_
    refine wloop (fun n f w_24 => ∃ (col_25 : Col) (k_22 : Nat) (a_27 : Option Addr) (cap_28 : Nat) (out_26 : List (List Int)) (l_23 : List Int), n = l_23.length ∧ x_15.drop k_22 = l_23 ∧ m_dag_children_L2 k_7 (m_dag_children_L1 l_16) l_23 out_26 = some r ∧ St w0 (col0 col) col_25 w_24 ∧ Sl (Rep.slice (Rep.int .i64)) col_25 w_24 a0 cap0 p0_parents ∧ Sl (Rep.int .i64) col_25 w_24 a_19 cap_20 x_15 ∧ Own (Rep.row 3 (Rep.int .i64)) 31 1 col_25 w_24 a_27 cap_28 out_26 ∧ f 20 = (.int .i64 (k_22 : Int)) ∧ f 11 = (.slice a0 p0_parents.length cap0) ∧ f 12 = (.int .i64 (p0_parents.length : Int)) ∧ f 13 = (.int .i64 (k_7 : Int)) ∧ f 18 = (.slice a_19 x_15.length cap_20) ∧ f 19 = (.int .i64 (x_15.length : Int)) ∧ f 3 = (.slice a_27 out_26.length cap_28) ∧ f 4 = (.int .i64 (k_7 : Int)) ∧ f 1000000 = (enc [])) x_15.length ⟨col_10, 0, a_12, cap_13, out_11, x_15, rfl, rfl, hm, hst, h0, h_21, h_14, rfl, rfl, rfl, rfl, rfl, rfl, rfl, rfl, rfl⟩ ?_
    clear hm; intro n f w_24 hI
    obtain ⟨col_25, k_22, a_27, cap_28, out_26, l_23, hn, hl, hm, hst, h0, h_21, h_29, hs20, hs11, hs12, hs13, hs18, hs19, hs3, hs4, hs1000000⟩ := hI
    subst hn
    refine .ld (d := 20) (v := (.int .i64 (k_22 : Int))) hs20 ?_
    refine .ld (d := 11) (v := (.slice a0 p0_parents.length cap0)) hs11 ?_
    refine .ld (d := 12) (v := (.int .i64 (p0_parents.length : Int))) hs12 ?_
    refine .ld (d := 13) (v := (.int .i64 (k_7 : Int))) hs13 ?_
    refine .ld (d := 18) (v := (.slice a_19 x_15.length cap_20)) hs18 ?_
    refine .ld (d := 19) (v := (.int .i64 (x_15.length : Int))) hs19 ?_
    refine .ld (d := 3) (v := (.slice a_27 out_26.length cap_28)) hs3 ?_
    refine .ld (d := 4) (v := (.int .i64 (k_7 : Int))) hs4 ?_
    refine .ld (d := 1000000) (v := (enc [])) hs1000000 ?_
    clear hs20 hs11 hs12 hs13 hs18 hs19 hs3 hs4 hs1000000
    cases l_23 with
    | nil =>
      have hk : ¬ ((k_22 : Int) < (x_15.length : Int)) := by have := List.drop_eq_nil_iff.1 hl; omega
      have hkb := decide_eq_false hk
      rw [m_dag_children_L2.eq_1] at hm
      refine wseq ?_
      refine wregion ?_
      refine lv (v := (.bool (decide ((k_22 : Int) < (x_15.length : Int))))) rfl rfl (r_lss (k_22 : Int) (x_15.length : Int) rfl rfl) ?_
      refine lnil ?_
      refine wseq ?_
      refine wcondF (congrArg Value.bool hkb) ?_
      refine wexit (inB_hit ?_)
      refine wregion ?_
      refine lv (v := (.int .i64 (IntKind.i64.wrap ((k_7 : Int) + 1)))) rfl rfl (r_add (k_7 : Int) 1 rfl rfl) ?_
      refine lv (v := (.int .i64 (IntKind.i64.wrap ((k_7 : Int) + 1)))) rfl rfl (r_move rfl) ?_
      refine lnil ?_
      exact ⟨l_16.length, by simp, ⟨col_25, (k_7 + 1), a_27, cap_28, out_26, l_16, rfl, hl2, hm, hst, h0, h_29, (congrArg (Value.int .i64) (wrap_succ (Nat.lt_of_lt_of_le hlt h0.1.1))), rfl, rfl, rfl, rfl⟩⟩
    | cons x_30 l_31 =>
      obtain ⟨hat, hl2, hlt⟩ := drop_get hl
      have hk : (k_22 : Int) < (x_15.length : Int) := by omega
      have hkb := decide_eq_true hk
      rw [m_dag_children_L2.eq_2] at hm
      refine wseq ?_
      refine wregion ?_
      refine lv (v := (.bool (decide ((k_22 : Int) < (x_15.length : Int))))) rfl rfl (r_lss (k_22 : Int) (x_15.length : Int) rfl rfl) ?_
      refine lnil ?_
      refine wseq ?_
      refine wcondT (congrArg Value.bool hkb) ?_
      refine wskip ?_
      refine wseq ?_
      refine wblock ?_
      refine wseq ?_
      refine wregion ?_
      refine lv (v := (sptr a_19 (Int.toNat (k_22 : Int) * 1))) rfl rfl (r_idx Try.underlying31 Try.sizeOf3 rfl rfl (at?_some hat).1 (at?_some hat).2.1 (h_21.addr hat)) ?_
      refine lv (v := (.int .i64 x_30)) rfl rfl (r_ld Try.isAgg3 rfl (h_21.atInt hat)) ?_
      refine lv (v := (.int .i64 x_30)) rfl rfl (r_assign rfl) ?_
      refine lnil ?_
      refine wregion ?_
      refine lv (v := (.slice a_27 out_26.length cap_28)) rfl rfl (r_move rfl) ?_
      refine lv (v := (.int .i64 x_30)) rfl rfl (r_move rfl) ?_
      refine lv (v := (.slice a_27 out_26.length cap_28)) rfl rfl (r_move rfl) ?_
      refine lv (v := (.int .i64 x_30)) rfl rfl (r_move rfl) ?_
      obtain ⟨e_32, hj_33, hm⟩ := bind_some hm
      refine lv (v := (sptr a_27 (Int.toNat x_30 * 1))) rfl rfl (r_idx Try.underlying22 Try.sizeOf31 rfl rfl (at?_some hj_33).1 (at?_some hj_33).2.1 (h_29.addr hj_33)) ?_
      obtain ⟨_, col_37, hk_35, hH_36, hs_34⟩ := h_29.open_ 2 (by decide) hj_33
      replace h0 := h0.kpp hk_35 rfl
      replace h_21 := h_21.kpp hk_35 rfl
      replace hst := hst.kpp hk_35 rfl rfl
      obtain ⟨a_38, cap_39, rfl, h_40⟩ := hs_34.row
      clear h_29
      replace hH_36 : Hole (Rep.row 3 (Rep.int .i64)) 31 1 col_37 w_24 a_27 cap_28 out_26 (Int.toNat x_30) [(.slice a_38 e_32.length cap_39)] := hH_36
      refine lv (v := (.slice a_38 e_32.length cap_39)) rfl rfl (r_ld Try.isAgg31 rfl hH_36.atN.one) ?_
      refine lv (v := (.int .i64 (k_7 : Int))) rfl rfl (r_move rfl) ?_
      refine l_lit (col := col_37) (r := (Rep.int .i64)) (xs := [(k_7 : Int)]) [(.int .i64 (k_7 : Int))] 3 rfl Try.underlying31 el3_29 rfl rfl rfl rfl rfl rfl (by intro v hv; simp only [List.mem_cons, List.not_mem_nil, or_false] at hv; subst hv; rfl) (RowsH.ofF (Rows.consF (r := (Rep.int .i64)) (x := (k_7 : Int)) (cs := [(.int .i64 (k_7 : Int))]) (rd_int .i64 (k_7 : Int)) Rows.nil0)) ?_
      intro a_41 w_42 col_43 hg_44 h_45
      replace h0 := h0.gr hg_44
      replace h_21 := h_21.gr hg_44
      replace hH_36 := hH_36.gr hg_44
      replace h_40 := h_40.gr hg_44
      replace hst := hst.grow hg_44
      obtain ⟨hb_46, hm⟩ := chk_some hm
      refine l_ext (col := col_43) (w := w_42) (r := (Rep.int .i64)) (c := 2) (c2 := 2) (h_40.ex) (h_45.srcN (NB.int (k := .i64))) rfl Try.underlying31 el3_29 rfl rfl rfl hb_46.1 hb_46.2 (by decide) ?_
      intro a_47 cap_48 w_49 col_50 hk_51 h_52
      replace h0 := h0.kpp hk_51 rfl
      replace h_21 := h_21.kpp hk_51 rfl
      replace hH_36 := hH_36.kpp hk_51 rfl rfl
      replace h_45 := h_45.kpp hk_51 rfl rfl
      replace hst := hst.kpp hk_51 rfl rfl
      clear h_40
      refine lv (v := (sptr a_27 (Int.toNat x_30 * 1))) rfl rfl (r_idx Try.underlying22 Try.sizeOf31 rfl rfl (at?_some hj_33).1 (at?_some hj_33).2.1 (hH_36.addr)) ?_
      refine l_storeH (v := (.slice a_47 ((e_32 ++ [(k_7 : Int)]).length) cap_48)) hH_36 rfl Try.sizeOf31 rfl (by intro u hu; simp only [Value.cells, List.mem_cons, List.not_mem_nil, or_false] at hu; subst hu; rfl) rfl rfl (by decide) ?_
      intro w_53 hk_54 hs_55 hH_56
      replace h0 := h0.kp hk_54 (by decide)
      replace h_21 := h_21.kp hk_54 (by decide)
      replace h_52 := h_52.kp hk_54 (by decide) (by decide)
      replace hst := hst.kp hk_54 hs_55 (by decide) (by decide)
      replace hH_56 : Hole (Rep.row 3 (Rep.int .i64)) 31 1 col_50 w_53 a_27 cap_28 out_26 (Int.toNat x_30) [(.slice a_47 ((e_32 ++ [(k_7 : Int)]).length) cap_48)] := hH_56
      clear hH_36
      have h_57 := h_52.new
      clear h_52
      have h_58 := hH_56.close h_57.has (by decide) (by decide)
      replace h0 := h0.recol 2 1 (by decide)
      replace h_21 := h_21.recol 2 1 (by decide)
      replace hst := hst.recol 2 1 (by decide) (by decide)
      clear hH_56
      refine .ld (d := 3) (v := (.slice a_27 ((out_26.set (Int.toNat x_30) (e_32 ++ [(k_7 : Int)])).length) cap_28)) (congrArg (fun n => Value.slice a_27 n cap_28) (show out_26.length = (out_26.set (Int.toNat x_30) (e_32 ++ [(k_7 : Int)])).length by rw [List.length_set])) ?_
      refine lnil ?_
      refine wregion ?_
      refine lv (v := (.int .i64 (IntKind.i64.wrap ((k_22 : Int) + 1)))) rfl rfl (r_add (k_22 : Int) 1 rfl rfl) ?_
      refine lv (v := (.int .i64 (IntKind.i64.wrap ((k_22 : Int) + 1)))) rfl rfl (r_move rfl) ?_
      refine lnil ?_
      exact ⟨l_31.length, by simp, ⟨(rcC 2 1 col_50), (k_22 + 1), a_27, cap_28, (out_26.set (Int.toNat x_30) (e_32 ++ [(k_7 : Int)])), l_31, rfl, hl2, hm, hst, h0, h_21, h_58, (congrArg (Value.int .i64) (wrap_succ (Nat.lt_of_lt_of_le hlt h_21.1.1))), rfl, rfl, rfl, rfl, rfl, rfl, rfl, rfl⟩⟩



theorem el3_39 : ElemOk Try.prog 3 1 8 := ⟨Try.t3, _, rfl, rfl, rfl, rfl, rfl⟩

def m_dag_heap_push_J1 (h_21 : List Int) (i_25 : Int) (kk_L1 : ((List Int) → Int → Option (List Int))) (v_35 : Bool) : Option (List Int) :=
  if v_35 = true then ((at? h_21 (IntKind.i64.wrap (Int.tdiv (IntKind.i64.wrap (i_25 - 1)) 2))).bind fun e_36 => (at? h_21 i_25).bind fun e_38 => (some (h_21.set (Int.toNat i_25) e_36)).bind fun xs_46 => (at? xs_46 (IntKind.i64.wrap (Int.tdiv (IntKind.i64.wrap (i_25 - 1)) 2))).bind fun e_47 => (some (xs_46.set (Int.toNat (IntKind.i64.wrap (Int.tdiv (IntKind.i64.wrap (i_25 - 1)) 2))) e_38)).bind fun xs_55 => kk_L1 xs_55 (IntKind.i64.wrap (Int.tdiv (IntKind.i64.wrap (i_25 - 1)) 2))) else (some h_21)

def m_dag_heap_push_L1 (N : Nat)  : Nat → (List Int) → Int → Option (List Int)
  | 0, _, _ => none
  | n_18 + 1, h_21, i_25 => if (decide (0 < i_25)) = true then ((at? h_21 i_25).bind fun e_58 => (at? h_21 (IntKind.i64.wrap (Int.tdiv (IntKind.i64.wrap (i_25 - 1)) 2))).bind fun e_60 => m_dag_heap_push_J1 h_21 i_25 (m_dag_heap_push_L1 N n_18) (decide (e_58 < e_60))) else (m_dag_heap_push_J1 h_21 i_25 (m_dag_heap_push_L1 N n_18) false)

def m_dag_heap_push (N : Nat) (p0_h : (List Int)) (p1_x : Int) : Option (List Int) :=
  chk ((p0_h.length + [p1_x].length) * 8 ≤ 140737488355328 ∧ p0_h.length + [p1_x].length ≤ maxLen) (m_dag_heap_push_L1 N N (p0_h ++ [p1_x]) (IntKind.i64.wrap (((p0_h ++ [p1_x]).length : Int) - 1)))

set_option maxRecDepth 100000 in
theorem c_dag_heap_push (N : Nat) (col : Col) (w0 : World) (q0 : Nat) (q0_1 : Nat) (hd : dstB [q0, q0_1] = true) (g0 : Nat) (p0_h : (List Int)) (a0_2 : Option Addr) (cap0_2 : Nat) (p1_x : Int) (h0_2 : Own (Rep.int .i64) 3 q0_1 col w0 a0_2 cap0_2 p0_h) (hb0 : Box 57 q0 col w0 g0 #[(.slice a0_2 p0_h.length cap0_2)]) (r : (List Int)) (hm : m_dag_heap_push N p0_h p1_x = some r) :
    Calls Try.prog 39 #[(.pointer (some ⟨g0, 0, none⟩)), (.int .i64 p1_x)] w0 (fun e w' => ∃ (col' : Col) (oa1 : Option Addr) (oc2 : Nat), e = .returned (.tuple #[]) ∧ KeepP (pS [q0, q0_1]) col w0 col' w' ∧ Own (Rep.int .i64) 3 q0_1 col' w' oa1 oc2 r ∧ Box 57 q0 col' w' g0 #[(.slice oa1 r.length oc2)]) := by
  refine calls_of0  (m := 66) (args := [(.pointer (some ⟨g0, 0, none⟩)), (.int .i64 p1_x)]) Try.func39 rfl rfl rfl rfl ?_
  rw [m_dag_heap_push.eq_1] at hm
  have hst := St.startL (l := [q0, q0_1]) rfl col w0
  replace hb0 := hb0.startL (dst_nz hd 0 rfl) (dst_ix hd 0 rfl)
  replace h0_2 := h0_2.startL (dst_nz hd 1 rfl) (dst_ix hd 1 rfl)
  refine wseq ?_
  refine wregion ?_
  refine lv (v := (.pointer (some ⟨g0, 0, none⟩))) rfl rfl (r_move rfl) ?_
  refine lv (v := (.pointer (some ⟨g0, 0, none⟩))) rfl rfl (r_move rfl) ?_
  refine lv (v := (.pointer (some ⟨g0, 0, none⟩))) rfl rfl (r_nilCheck rfl) ?_
  refine lv (v := (.slice a0_2 p0_h.length cap0_2)) rfl rfl (r_ld Try.isAgg57 rfl hb0.at1) ?_
  refine lv (v := (.int .i64 p1_x)) rfl rfl (r_move rfl) ?_
  refine l_lit (col := (colL [q0, q0_1] col)) (r := (Rep.int .i64)) (xs := [p1_x]) [(.int .i64 p1_x)] 1 rfl Try.underlying57 el3_39 rfl rfl rfl rfl rfl rfl (by intro v hv; simp only [List.mem_cons, List.not_mem_nil, or_false] at hv; subst hv; rfl) (RowsH.ofF (Rows.consF (r := (Rep.int .i64)) (x := p1_x) (cs := [(.int .i64 p1_x)]) (rd_int .i64 p1_x) Rows.nil0)) ?_
  intro a_1 w_2 col_3 hg_4 h_5
  replace h0_2 := h0_2.gr hg_4
  replace hb0 := hb0.gr hg_4
  replace hst := hst.grow hg_4
  obtain ⟨hb_6, hm⟩ := chk_some hm
  refine l_ext (col := col_3) (w := w_2) (r := (Rep.int .i64)) (c := 441) (c2 := 441) (h0_2.ex) (h_5.srcN (NB.int (k := .i64))) rfl Try.underlying57 el3_39 rfl rfl rfl hb_6.1 hb_6.2 (by decide) ?_
  intro a_7 cap_8 w_9 col_10 hk_11 h_12
  replace h_5 := h_5.kpp hk_11 rfl rfl
  replace hb0 := hb0.kpp hk_11 rfl
  replace hst := hst.kpp hk_11 rfl rfl
  clear h0_2
  refine lv (v := (.pointer (some ⟨g0, 0, none⟩))) rfl rfl (r_nilCheck rfl) ?_
  refine l_bstore (v := (.slice a_7 ((p0_h ++ [p1_x]).length) cap_8)) hb0 Try.sizeOf57 rfl rfl (by intro u hu; simp only [Value.cells, List.mem_cons, List.not_mem_nil, or_false] at hu; subst hu; rfl) rfl rfl ?_
  intro w_13 hk_14 hs_15 hb_16
  replace h_12 := h_12.kp hk_14 (by decide) (by decide)
  replace hst := hst.kp hk_14 hs_15 (by decide) (by decide)
  clear hb0
  replace hb_16 : Box 57 440 col_10 w_13 g0 #[(.slice a_7 ((p0_h ++ [p1_x]).length) cap_8)] := hb_16
  have h_17 := h_12.new
  clear h_12
  refine lnil ?_
  refine wseq ?_
  refine wregion ?_
  refine lv (v := (.pointer (some ⟨g0, 0, none⟩))) rfl rfl (r_move rfl) ?_
  refine lv (v := (.pointer (some ⟨g0, 0, none⟩))) rfl rfl (r_nilCheck rfl) ?_
  refine lv (v := (.slice a_7 ((p0_h ++ [p1_x]).length) cap_8)) rfl rfl (r_ld Try.isAgg57 rfl hb_16.at1) ?_
  refine lv (v := (.int .i64 ((p0_h ++ [p1_x]).length : Int))) rfl rfl (r_len Try.underlying57 rfl) ?_
  refine lv (v := (.int .i64 (IntKind.i64.wrap (((p0_h ++ [p1_x]).length : Int) - 1)))) rfl rfl (r_sub ((p0_h ++ [p1_x]).length : Int) 1 rfl rfl) ?_
  refine lv (v := (.int .i64 (IntKind.i64.wrap (((p0_h ++ [p1_x]).length : Int) - 1)))) rfl rfl (r_assign rfl) ?_
  refine lnil ?_
  refine wblock ?_
  refine wloop (fun n f w_19 => ∃ (col_20 : Col) (a_22 : Option Addr) (cap_23 : Nat) (h_21 : List Int) (i_25 : Int) (n_18 : Nat), n_18 = n ∧ m_dag_heap_push_L1 N n_18 h_21 i_25 = some r ∧ St w0 (colL [q0, q0_1] col) col_20 w_19 ∧ Own (Rep.int .i64) 3 441 col_20 w_19 a_22 cap_23 h_21 ∧ Box 57 440 col_20 w_19 g0 #[(.slice a_22 h_21.length cap_23)] ∧ f 0 = (.pointer (some ⟨g0, 0, none⟩)) ∧ f 4 = (.int .i64 i_25) ∧ f 1000000 = (enc [])) N ⟨col_10, a_7, cap_8, (p0_h ++ [p1_x]), (IntKind.i64.wrap (((p0_h ++ [p1_x]).length : Int) - 1)), N, rfl, hm, hst, h_17, hb_16, rfl, rfl, rfl⟩ ?_
  clear hm; intro n f w_19 hI
  obtain ⟨col_20, a_22, cap_23, h_21, i_25, n_18, hn, hm, hst, h_24, hb_16, hs0, hs4, hs1000000⟩ := hI
  subst hn
  refine .ld (d := 0) (v := (.pointer (some ⟨g0, 0, none⟩))) hs0 ?_
  refine .ld (d := 4) (v := (.int .i64 i_25)) hs4 ?_
  refine .ld (d := 1000000) (v := (enc [])) hs1000000 ?_
  clear hs0 hs4 hs1000000
  cases n_18 with
  | zero => rw [m_dag_heap_push_L1.eq_1] at hm; cases hm
  | succ n_18 =>
    rw [m_dag_heap_push_L1.eq_2] at hm
    refine wseq ?_
    refine wseq ?_
    refine Wp.cut (fun f w_33 => ∃ (col_34 : Col) (v_35 : Bool), m_dag_heap_push_J1 h_21 i_25 (m_dag_heap_push_L1 N n_18) v_35 = some r ∧ St w0 (colL [q0, q0_1] col) col_34 w_33 ∧ Own (Rep.int .i64) 3 441 col_34 w_33 a_22 cap_23 h_21 ∧ Box 57 440 col_34 w_33 g0 #[(.slice a_22 h_21.length cap_23)] ∧ f 0 = (.pointer (some ⟨g0, 0, none⟩)) ∧ f 36 = (.bool v_35) ∧ f 4 = (.int .i64 i_25) ∧ f 1000000 = (enc [])) ?_ ?_
    · intro f w_33 hJ
      obtain ⟨col_34, v_35, hm, hst, h_24, hb_16, hs0, hs36, hs4, hs1000000⟩ := hJ
      rw [m_dag_heap_push_J1.eq_1] at hm
      refine .ld (d := 0) (v := (.pointer (some ⟨g0, 0, none⟩))) hs0 ?_
      refine .ld (d := 36) (v := (.bool v_35)) hs36 ?_
      refine .ld (d := 4) (v := (.int .i64 i_25)) hs4 ?_
      refine .ld (d := 1000000) (v := (enc [])) hs1000000 ?_
      clear hs0 hs36 hs4 hs1000000
      refine wcond (v_35) rfl (fun hb => ?_) (fun hb => ?_)
      · rw [if_pos hb] at hm
        clear hb
        refine wskip ?_
        refine wseq ?_
        refine wblock ?_
        refine wmix (col := col_34) [(0, 1), (1, 1), (2, 0), (3, 1), (4, 1), (5, 1), (6, 0), (7, 1), (8, 1), (9, 1), (10, 1), (11, 1), (12, 0), (13, 1), (14, 1), (15, 1), (16, 1), (17, 0), (18, 1), (19, 1), (20, 0), (21, 1), (22, 1), (23, 0), (24, 1), (25, 2), (26, 1), (27, 2)] (by kernel_rfl) (by kernel_rfl) ?_
        refine xu (v := (.pointer (some ⟨g0, 0, none⟩))) rfl rfl (fun _ => r_move rfl) ?_
        refine xu (v := (.pointer (some ⟨g0, 0, none⟩))) rfl rfl (fun _ => r_nilCheck rfl) ?_
        refine xv (v := (.slice a_22 h_21.length cap_23)) rfl rfl (fun _ hC => r_ld Try.isAgg57 rfl (hb_16.at1.gr (Grow.of_below (col := col_34) hC.below))) ?_
        refine xu (v := (.int .i64 i_25)) rfl rfl (fun _ => r_move rfl) ?_
        refine xu (v := (.pointer (some ⟨g0, 0, none⟩))) rfl rfl (fun _ => r_move rfl) ?_
        refine xu (v := (.pointer (some ⟨g0, 0, none⟩))) rfl rfl (fun _ => r_nilCheck rfl) ?_
        refine xv (v := (.slice a_22 h_21.length cap_23)) rfl rfl (fun _ hC => r_ld Try.isAgg57 rfl (hb_16.at1.gr (Grow.of_below (col := col_34) hC.below))) ?_
        refine xu (v := (.int .i64 i_25)) rfl rfl (fun _ => r_move rfl) ?_
        refine xu (v := (.int .i64 (IntKind.i64.wrap (i_25 - 1)))) rfl rfl (fun _ => r_sub i_25 1 rfl rfl) ?_
        refine xu (v := (.int .i64 (IntKind.i64.wrap (Int.tdiv (IntKind.i64.wrap (i_25 - 1)) 2)))) rfl rfl (fun _ => r_quo (IntKind.i64.wrap (i_25 - 1)) 2 rfl rfl (by decide)) ?_
        refine xu (v := (.pointer (some ⟨g0, 0, none⟩))) rfl rfl (fun _ => r_move rfl) ?_
        refine xu (v := (.pointer (some ⟨g0, 0, none⟩))) rfl rfl (fun _ => r_nilCheck rfl) ?_
        refine xv (v := (.slice a_22 h_21.length cap_23)) rfl rfl (fun _ hC => r_ld Try.isAgg57 rfl (hb_16.at1.gr (Grow.of_below (col := col_34) hC.below))) ?_
        refine xu (v := (.int .i64 i_25)) rfl rfl (fun _ => r_move rfl) ?_
        refine xu (v := (.int .i64 (IntKind.i64.wrap (i_25 - 1)))) rfl rfl (fun _ => r_sub i_25 1 rfl rfl) ?_
        refine xu (v := (.int .i64 (IntKind.i64.wrap (Int.tdiv (IntKind.i64.wrap (i_25 - 1)) 2)))) rfl rfl (fun _ => r_quo (IntKind.i64.wrap (i_25 - 1)) 2 rfl rfl (by decide)) ?_
        obtain ⟨e_36, hj_37, hm⟩ := bind_some hm
        refine xu (v := (sptr a_22 (Int.toNat (IntKind.i64.wrap (Int.tdiv (IntKind.i64.wrap (i_25 - 1)) 2)) * 1))) rfl rfl (fun _ => r_idx Try.underlying57 Try.sizeOf3 rfl rfl (at?_some hj_37).1 (at?_some hj_37).2.1 (h_24.addr hj_37)) ?_
        refine xv (v := (.int .i64 e_36)) rfl rfl (fun _ hC => r_ld Try.isAgg3 rfl ((h_24.gr (Grow.of_below (col := col_34) hC.below)).atInt hj_37)) ?_
        refine xu (v := (.pointer (some ⟨g0, 0, none⟩))) rfl rfl (fun _ => r_move rfl) ?_
        refine xu (v := (.pointer (some ⟨g0, 0, none⟩))) rfl rfl (fun _ => r_nilCheck rfl) ?_
        refine xv (v := (.slice a_22 h_21.length cap_23)) rfl rfl (fun _ hC => r_ld Try.isAgg57 rfl (hb_16.at1.gr (Grow.of_below (col := col_34) hC.below))) ?_
        refine xu (v := (.int .i64 i_25)) rfl rfl (fun _ => r_move rfl) ?_
        obtain ⟨e_38, hj_39, hm⟩ := bind_some hm
        refine xu (v := (sptr a_22 (Int.toNat i_25 * 1))) rfl rfl (fun _ => r_idx Try.underlying57 Try.sizeOf3 rfl rfl (at?_some hj_39).1 (at?_some hj_39).2.1 (h_24.addr hj_39)) ?_
        refine xv (v := (.int .i64 e_38)) rfl rfl (fun _ hC => r_ld Try.isAgg3 rfl ((h_24.gr (Grow.of_below (col := col_34) hC.below)).atInt hj_39)) ?_
        refine xu (v := (sptr a_22 (Int.toNat i_25 * 1))) rfl rfl (fun _ => r_idx Try.underlying57 Try.sizeOf3 rfl rfl (at?_some hj_39).1 (at?_some hj_39).2.1 (h_24.addr hj_39)) ?_
        refine xe rfl rfl ?_
        intro w_40 hC0
        have hC : Grow col_34 w_33 col_34 w_40 := .of_below hC0.below
        replace h_24 := h_24.gr hC
        replace hb_16 := hb_16.gr hC
        replace hst := hst.grow hC
        obtain ⟨xs_46, hz_45, hm⟩ := bind_some hm
        have hz_45 : xs_46 = h_21.set (Int.toNat i_25) e_36 := (Option.some.inj hz_45).symm
        refine l_store (x1 := e_36) (v := (.int .i64 e_36)) h_24 hj_39 rfl Try.sizeOf3 (rd_int .i64 e_36) rfl rfl (by decide) ?_
        intro w_41 hk_42 hs_43 h_44
        rw [← hz_45] at h_44
        replace hb_16 := hb_16.kp hk_42 (by decide)
        replace hst := hst.kp hk_42 hs_43 (by decide) (by decide)
        refine .ld (d := 46) (v := (.slice a_22 xs_46.length cap_23)) (congrArg (fun n => Value.slice a_22 n cap_23) (show h_21.length = xs_46.length by rw [hz_45, List.length_set])) ?_
        replace hb_16 : Box 57 440 col_34 w_41 g0 #[(.slice a_22 xs_46.length cap_23)] := by rw [← (show h_21.length = xs_46.length by rw [hz_45, List.length_set])]; exact hb_16
        clear h_24
        refine lnil ⟨fun w' => Grow col_34 w_41 col_34 w', Grow.refl _ _, fun h => absurd h (by decide), ?_⟩
        obtain ⟨e_47, hj_48, hm⟩ := bind_some hm
        refine xu (v := (sptr a_22 (Int.toNat (IntKind.i64.wrap (Int.tdiv (IntKind.i64.wrap (i_25 - 1)) 2)) * 1))) rfl rfl (fun _ => r_idx Try.underlying57 Try.sizeOf3 rfl rfl (at?_some hj_48).1 (at?_some hj_48).2.1 (h_44.addr hj_48)) ?_
        refine xe rfl rfl ?_
        intro w_49 hC0
        have hC : Grow col_34 w_41 col_34 w_49 := .of_below hC0.below
        replace h_44 := h_44.gr hC
        replace hb_16 := hb_16.gr hC
        replace hst := hst.grow hC
        obtain ⟨xs_55, hz_54, hm⟩ := bind_some hm
        have hz_54 : xs_55 = xs_46.set (Int.toNat (IntKind.i64.wrap (Int.tdiv (IntKind.i64.wrap (i_25 - 1)) 2))) e_38 := (Option.some.inj hz_54).symm
        refine l_store (x1 := e_38) (v := (.int .i64 e_38)) h_44 hj_48 rfl Try.sizeOf3 (rd_int .i64 e_38) rfl rfl (by decide) ?_
        intro w_50 hk_51 hs_52 h_53
        rw [← hz_54] at h_53
        replace hb_16 := hb_16.kp hk_51 (by decide)
        replace hst := hst.kp hk_51 hs_52 (by decide) (by decide)
        replace hb_16 : Box 57 440 col_34 w_50 g0 #[(.slice a_22 xs_55.length cap_23)] := by rw [← (show xs_46.length = xs_55.length by rw [hz_54, List.length_set])]; exact hb_16
        clear h_44
        refine lnil ⟨fun w' => Grow col_34 w_50 col_34 w', Grow.refl _ _, fun h => absurd h (by decide), ?_⟩
        refine xnil ?_
        intro w_56 hC
        replace hC : Grow col_34 w_50 col_34 w_56 := .of_below hC.below
        replace h_53 := h_53.gr hC
        replace hb_16 := hb_16.gr hC
        replace hst := hst.grow hC
        refine wregion ?_
        refine lv (v := (.int .i64 i_25)) rfl rfl (r_move rfl) ?_
        refine lv (v := (.int .i64 (IntKind.i64.wrap (i_25 - 1)))) rfl rfl (r_sub i_25 1 rfl rfl) ?_
        refine lv (v := (.int .i64 (IntKind.i64.wrap (Int.tdiv (IntKind.i64.wrap (i_25 - 1)) 2)))) rfl rfl (r_quo (IntKind.i64.wrap (i_25 - 1)) 2 rfl rfl (by decide)) ?_
        refine lv (v := (.int .i64 (IntKind.i64.wrap (Int.tdiv (IntKind.i64.wrap (i_25 - 1)) 2)))) rfl rfl (r_assign rfl) ?_
        refine lnil ?_
        exact ⟨n_18, by omega, ⟨col_34, a_22, cap_23, xs_55, (IntKind.i64.wrap (Int.tdiv (IntKind.i64.wrap (i_25 - 1)) 2)), n_18, rfl, hm, hst, h_53, hb_16, rfl, rfl, rfl⟩⟩
      · rw [if_neg (by rw [hb]; decide)] at hm
        clear hb
        refine wexit (inB_hit ?_)
        cases hm
        exact ⟨rfl, colFL w0.heap.size [q0, q0_1] col col_34 (fun n => bif Nat.beq n 441 then q0_1 else bif Nat.beq n 440 then q0 else 0), a_22, cap_23, rfl, hst.finL rfl (fun n => bif Nat.beq n 441 then q0_1 else bif Nat.beq n 440 then q0 else 0), hst.finOwnL (g := (fun n => bif Nat.beq n 441 then q0_1 else bif Nat.beq n 440 then q0 else 0)) rfl h_24 (by decide) (by decide) rfl, hst.finBoxL (g := (fun n => bif Nat.beq n 441 then q0_1 else bif Nat.beq n 440 then q0 else 0)) hb_16 (by decide) (by decide) rfl⟩
    · refine wquiet (col := col_20) (by kernel_rfl) (by kernel_rfl) ?_
      refine qv (v := (.int .i64 i_25)) rfl (fun _ hC => r_move rfl) ?_
      refine qv (v := (.bool (decide (0 < i_25)))) rfl (fun _ hC => r_gtr i_25 0 rfl rfl) ?_
      refine qv (v := (.bool (decide (0 < i_25)))) rfl (fun _ hC => r_move rfl) ?_
      by_cases hg_57 : (decide (0 < i_25)) = true
      · rw [if_pos hg_57] at hm
        refine qg (b := decide (0 < i_25)) 20 rfl rfl rfl (by rw [hg_57]; rfl) ?_
        refine qv (v := (.pointer (some ⟨g0, 0, none⟩))) rfl (fun _ hC => r_move rfl) ?_
        refine qg (b := decide (0 < i_25)) 20 rfl rfl rfl (by rw [hg_57]; rfl) ?_
        refine qv (v := (.pointer (some ⟨g0, 0, none⟩))) rfl (fun _ hC => r_nilCheck rfl) ?_
        refine qg (b := decide (0 < i_25)) 20 rfl rfl rfl (by rw [hg_57]; rfl) ?_
        refine qv (v := (.slice a_22 h_21.length cap_23)) rfl (fun _ hC => r_ld Try.isAgg57 rfl (hb_16.at1.gr (Grow.of_below (col := col_20) hC.below))) ?_
        refine qg (b := decide (0 < i_25)) 20 rfl rfl rfl (by rw [hg_57]; rfl) ?_
        refine qv (v := (.int .i64 i_25)) rfl (fun _ hC => r_move rfl) ?_
        refine qg (b := decide (0 < i_25)) 20 rfl rfl rfl (by rw [hg_57]; rfl) ?_
        obtain ⟨e_58, hj_59, hm⟩ := bind_some hm
        refine qv (v := (sptr a_22 (Int.toNat i_25 * 1))) rfl (fun _ hC => r_idx Try.underlying57 Try.sizeOf3 rfl rfl (at?_some hj_59).1 (at?_some hj_59).2.1 (h_24.addr hj_59)) ?_
        refine qg (b := decide (0 < i_25)) 20 rfl rfl rfl (by rw [hg_57]; rfl) ?_
        refine qv (v := (.int .i64 e_58)) rfl (fun _ hC => r_ld Try.isAgg3 rfl ((h_24.gr (Grow.of_below (col := col_20) hC.below)).atInt hj_59)) ?_
        refine qg (b := decide (0 < i_25)) 20 rfl rfl rfl (by rw [hg_57]; rfl) ?_
        refine qv (v := (.pointer (some ⟨g0, 0, none⟩))) rfl (fun _ hC => r_move rfl) ?_
        refine qg (b := decide (0 < i_25)) 20 rfl rfl rfl (by rw [hg_57]; rfl) ?_
        refine qv (v := (.pointer (some ⟨g0, 0, none⟩))) rfl (fun _ hC => r_nilCheck rfl) ?_
        refine qg (b := decide (0 < i_25)) 20 rfl rfl rfl (by rw [hg_57]; rfl) ?_
        refine qv (v := (.slice a_22 h_21.length cap_23)) rfl (fun _ hC => r_ld Try.isAgg57 rfl (hb_16.at1.gr (Grow.of_below (col := col_20) hC.below))) ?_
        refine qg (b := decide (0 < i_25)) 20 rfl rfl rfl (by rw [hg_57]; rfl) ?_
        refine qv (v := (.int .i64 i_25)) rfl (fun _ hC => r_move rfl) ?_
        refine qg (b := decide (0 < i_25)) 20 rfl rfl rfl (by rw [hg_57]; rfl) ?_
        refine qv (v := (.int .i64 (IntKind.i64.wrap (i_25 - 1)))) rfl (fun _ hC => r_sub i_25 1 rfl rfl) ?_
        refine qg (b := decide (0 < i_25)) 20 rfl rfl rfl (by rw [hg_57]; rfl) ?_
        refine qv (v := (.int .i64 (IntKind.i64.wrap (Int.tdiv (IntKind.i64.wrap (i_25 - 1)) 2)))) rfl (fun _ hC => r_quo (IntKind.i64.wrap (i_25 - 1)) 2 rfl rfl (by decide)) ?_
        refine qg (b := decide (0 < i_25)) 20 rfl rfl rfl (by rw [hg_57]; rfl) ?_
        obtain ⟨e_60, hj_61, hm⟩ := bind_some hm
        refine qv (v := (sptr a_22 (Int.toNat (IntKind.i64.wrap (Int.tdiv (IntKind.i64.wrap (i_25 - 1)) 2)) * 1))) rfl (fun _ hC => r_idx Try.underlying57 Try.sizeOf3 rfl rfl (at?_some hj_61).1 (at?_some hj_61).2.1 (h_24.addr hj_61)) ?_
        refine qg (b := decide (0 < i_25)) 20 rfl rfl rfl (by rw [hg_57]; rfl) ?_
        refine qv (v := (.int .i64 e_60)) rfl (fun _ hC => r_ld Try.isAgg3 rfl ((h_24.gr (Grow.of_below (col := col_20) hC.below)).atInt hj_61)) ?_
        refine qg (b := decide (0 < i_25)) 20 rfl rfl rfl (by rw [hg_57]; rfl) ?_
        refine qv (v := (.bool (decide (e_58 < e_60)))) rfl (fun _ hC => r_lss e_58 e_60 rfl rfl) ?_
        refine qv (v := (.bool (decide (e_58 < e_60)))) rfl (fun _ hC => r_pickT (congrArg Value.bool hg_57) rfl) ?_
        refine qnil ?_
        intro w_62 hC
        replace hC : Grow col_20 w_19 col_20 w_62 := .of_below hC.below
        replace h_24 := h_24.gr hC
        replace hb_16 := hb_16.gr hC
        replace hst := hst.grow hC
        exact ⟨col_20, (decide (e_58 < e_60)), hm, hst, h_24, hb_16, rfl, rfl, rfl, rfl⟩
      · rw [if_neg hg_57] at hm
        replace hg_57 := Bool.eq_false_iff.2 hg_57
        refine qp (b := decide (0 < i_25)) 20 rfl rfl rfl rfl (by rw [hg_57]; rfl) ?_
        refine qp (b := decide (0 < i_25)) 20 rfl rfl rfl rfl (by rw [hg_57]; rfl) ?_
        refine qp (b := decide (0 < i_25)) 20 rfl rfl rfl rfl (by rw [hg_57]; rfl) ?_
        refine qp (b := decide (0 < i_25)) 20 rfl rfl rfl rfl (by rw [hg_57]; rfl) ?_
        refine qp (b := decide (0 < i_25)) 20 rfl rfl rfl rfl (by rw [hg_57]; rfl) ?_
        refine qp (b := decide (0 < i_25)) 20 rfl rfl rfl rfl (by rw [hg_57]; rfl) ?_
        refine qp (b := decide (0 < i_25)) 20 rfl rfl rfl rfl (by rw [hg_57]; rfl) ?_
        refine qp (b := decide (0 < i_25)) 20 rfl rfl rfl rfl (by rw [hg_57]; rfl) ?_
        refine qp (b := decide (0 < i_25)) 20 rfl rfl rfl rfl (by rw [hg_57]; rfl) ?_
        refine qp (b := decide (0 < i_25)) 20 rfl rfl rfl rfl (by rw [hg_57]; rfl) ?_
        refine qp (b := decide (0 < i_25)) 20 rfl rfl rfl rfl (by rw [hg_57]; rfl) ?_
        refine qp (b := decide (0 < i_25)) 20 rfl rfl rfl rfl (by rw [hg_57]; rfl) ?_
        refine qp (b := decide (0 < i_25)) 20 rfl rfl rfl rfl (by rw [hg_57]; rfl) ?_
        refine qp (b := decide (0 < i_25)) 20 rfl rfl rfl rfl (by rw [hg_57]; rfl) ?_
        refine qp (b := decide (0 < i_25)) 20 rfl rfl rfl rfl (by rw [hg_57]; rfl) ?_
        refine qv (v := (.bool false)) rfl (fun _ hC => r_pickF (congrArg Value.bool hg_57) rfl) ?_
        refine qnil ?_
        intro w_63 hC
        replace hC : Grow col_20 w_19 col_20 w_63 := .of_below hC.below
        replace h_24 := h_24.gr hC
        replace hb_16 := hb_16.gr hC
        replace hst := hst.grow hC
        exact ⟨col_20, false, hm, hst, h_24, hb_16, rfl, rfl, rfl, rfl⟩




def m_dag_heap_pop_J1 (v_27 : Int) (kk_L2 : (Int → Int → Option (Int × (List Int)))) (least_31 : Int) : Option (Int × (List Int)) :=
  kk_L2 (IntKind.i64.wrap (v_27 + 1)) least_31

def m_dag_heap_pop_J2 (v_27 : Int) (least_28 : Int) (kk_L2 : (Int → Int → Option (Int × (List Int)))) (e_32 : Int) (v_43 : Bool) : Option (Int × (List Int)) :=
  if v_43 = true then (m_dag_heap_pop_J1 v_27 kk_L2 e_32) else (m_dag_heap_pop_J1 v_27 kk_L2 least_28)

def m_dag_heap_pop_L2 (N : Nat) (p0_h : (List Int)) (e_1 : Int) (l_19 : List Int) (i_23 : Int) (kk_L1 : ((List Int) → Int → Option (Int × (List Int)))) : Nat → Int → Int → Option (Int × (List Int))
  | 0, _, _ => none
  | n_24 + 1, v_27, least_28 => if (decide (v_27 < 2)) = true then ((at? [IntKind.i64.wrap ((IntKind.i64.wrap (2 * i_23)) + 1), IntKind.i64.wrap ((IntKind.i64.wrap (2 * i_23)) + 2)] v_27).bind fun e_32 => if (decide (e_32 < (IntKind.i64.wrap ((p0_h.length : Int) - 1)))) = true then ((at? l_19 e_32).bind fun e_45 => (at? l_19 least_28).bind fun e_47 => m_dag_heap_pop_J2 v_27 least_28 (m_dag_heap_pop_L2 N p0_h e_1 l_19 i_23 kk_L1 n_24) e_32 (decide (e_45 < e_47))) else (m_dag_heap_pop_J2 v_27 least_28 (m_dag_heap_pop_L2 N p0_h e_1 l_19 i_23 kk_L1 n_24) e_32 false)) else (if (decide (least_28 = i_23)) = true then (some (e_1, l_19.take (Int.toNat (IntKind.i64.wrap ((p0_h.length : Int) - 1))))) else ((at? l_19 least_28).bind fun e_51 => (at? l_19 i_23).bind fun e_53 => (some (l_19.set (Int.toNat i_23) e_51)).bind fun xs_61 => (at? xs_61 least_28).bind fun e_62 => (some (xs_61.set (Int.toNat least_28) e_53)).bind fun xs_70 => kk_L1 xs_70 least_28))

def m_dag_heap_pop_L1 (N : Nat) (p0_h : (List Int)) (e_1 : Int) : Nat → (List Int) → Int → Option (Int × (List Int))
  | 0, _, _ => none
  | n_16 + 1, l_19, i_23 => m_dag_heap_pop_L2 N p0_h e_1 l_19 i_23 (m_dag_heap_pop_L1 N p0_h e_1 n_16) N 0 i_23

def m_dag_heap_pop (N : Nat) (p0_h : (List Int)) : Option (Int × (List Int)) :=
  (at? p0_h 0).bind fun e_1 => (at? p0_h (IntKind.i64.wrap ((p0_h.length : Int) - 1))).bind fun e_3 => (some (p0_h.set (Int.toNat 0) e_3)).bind fun xs_10 => chk ((0 : Int) ≤ (IntKind.i64.wrap ((p0_h.length : Int) - 1)) ∧ (IntKind.i64.wrap ((p0_h.length : Int) - 1)) ≤ (xs_10.length : Int)) (m_dag_heap_pop_L1 N p0_h e_1 N xs_10 0)

set_option maxRecDepth 100000 in
theorem c_dag_heap_pop (N : Nat) (col : Col) (w0 : World) (q0 : Nat) (q0_1 : Nat) (hd : dstB [q0, q0_1] = true) (g0 : Nat) (p0_h : (List Int)) (a0_2 : Option Addr) (cap0_2 : Nat) (h0_2 : Own (Rep.int .i64) 3 q0_1 col w0 a0_2 cap0_2 p0_h) (hb0 : Box 57 q0 col w0 g0 #[(.slice a0_2 p0_h.length cap0_2)]) (r : (Int × (List Int))) (hm : m_dag_heap_pop N p0_h = some r) :
    Calls Try.prog 40 #[(.pointer (some ⟨g0, 0, none⟩))] w0 (fun e w' => ∃ (col' : Col) (oa1 : Option Addr) (oc2 : Nat), e = .returned ((.int .i64 r.1)) ∧ KeepP (pS [q0, q0_1]) col w0 col' w' ∧ Own (Rep.int .i64) 3 q0_1 col' w' oa1 oc2 r.2 ∧ Box 57 q0 col' w' g0 #[(.slice oa1 r.2.length oc2)]) := by
  refine calls_of1 2 (m := 76) (args := [(.pointer (some ⟨g0, 0, none⟩))]) Try.func40 rfl rfl rfl rfl rfl ?_
  rw [m_dag_heap_pop.eq_1] at hm
  have hst := St.startL (l := [q0, q0_1]) rfl col w0
  replace hb0 := hb0.startL (dst_nz hd 0 rfl) (dst_ix hd 0 rfl)
  replace h0_2 := h0_2.startL (dst_nz hd 1 rfl) (dst_ix hd 1 rfl)
  refine wseq ?_
  refine wregion ?_
  refine lv (v := (.int .i64 0)) rfl rfl (r_assign rfl) ?_
  refine lnil ?_
  refine wseq ?_
  refine wregion ?_
  refine lv (v := (.pointer (some ⟨g0, 0, none⟩))) rfl rfl (r_move rfl) ?_
  refine lv (v := (.pointer (some ⟨g0, 0, none⟩))) rfl rfl (r_nilCheck rfl) ?_
  refine lv (v := (.slice a0_2 p0_h.length cap0_2)) rfl rfl (r_ld Try.isAgg57 rfl hb0.at1) ?_
  refine lv (v := (.slice a0_2 p0_h.length cap0_2)) rfl rfl (r_assign rfl) ?_
  refine lnil ?_
  refine wseq ?_
  refine wregion ?_
  refine lv (v := (.slice a0_2 p0_h.length cap0_2)) rfl rfl (r_move rfl) ?_
  obtain ⟨e_1, hj_2, hm⟩ := bind_some hm
  refine lv (v := (sptr a0_2 (Int.toNat 0 * 1))) rfl rfl (r_idx Try.underlying57 Try.sizeOf3 rfl rfl (at?_some hj_2).1 (at?_some hj_2).2.1 (h0_2.addr hj_2)) ?_
  refine lv (v := (.int .i64 e_1)) rfl rfl (r_ld Try.isAgg3 rfl (h0_2.atInt hj_2)) ?_
  refine lv (v := (.slice a0_2 p0_h.length cap0_2)) rfl rfl (r_move rfl) ?_
  refine lv (v := (.int .i64 (p0_h.length : Int))) rfl rfl (r_len Try.underlying57 rfl) ?_
  refine lv (v := (.int .i64 (IntKind.i64.wrap ((p0_h.length : Int) - 1)))) rfl rfl (r_sub (p0_h.length : Int) 1 rfl rfl) ?_
  refine lv (v := (.int .i64 e_1)) rfl rfl (r_assign rfl) ?_
  refine lv (v := (.int .i64 (IntKind.i64.wrap ((p0_h.length : Int) - 1)))) rfl rfl (r_assign rfl) ?_
  refine lnil ?_
  refine wseq ?_
  refine wregion ?_
  refine lv (v := (.slice a0_2 p0_h.length cap0_2)) rfl rfl (r_move rfl) ?_
  refine lv (v := (.slice a0_2 p0_h.length cap0_2)) rfl rfl (r_move rfl) ?_
  refine lv (v := (.int .i64 (IntKind.i64.wrap ((p0_h.length : Int) - 1)))) rfl rfl (r_move rfl) ?_
  obtain ⟨e_3, hj_4, hm⟩ := bind_some hm
  refine lv (v := (sptr a0_2 (Int.toNat (IntKind.i64.wrap ((p0_h.length : Int) - 1)) * 1))) rfl rfl (r_idx Try.underlying57 Try.sizeOf3 rfl rfl (at?_some hj_4).1 (at?_some hj_4).2.1 (h0_2.addr hj_4)) ?_
  refine lv (v := (.int .i64 e_3)) rfl rfl (r_ld Try.isAgg3 rfl (h0_2.atInt hj_4)) ?_
  refine lv (v := (sptr a0_2 (Int.toNat 0 * 1))) rfl rfl (r_idx Try.underlying57 Try.sizeOf3 rfl rfl (at?_some hj_2).1 (at?_some hj_2).2.1 (h0_2.addr hj_2)) ?_
  obtain ⟨xs_10, hz_9, hm⟩ := bind_some hm
  have hz_9 : xs_10 = p0_h.set (Int.toNat 0) e_3 := (Option.some.inj hz_9).symm
  refine l_store (x1 := e_3) (v := (.int .i64 e_3)) h0_2 hj_2 rfl Try.sizeOf3 (rd_int .i64 e_3) rfl rfl (by decide) ?_
  intro w_5 hk_6 hs_7 h_8
  rw [← hz_9] at h_8
  replace hb0 := hb0.kp hk_6 (by decide)
  replace hst := hst.kp hk_6 hs_7 (by decide) (by decide)
  refine .ld (d := 3) (v := (.slice a0_2 xs_10.length cap0_2)) (congrArg (fun n => Value.slice a0_2 n cap0_2) (show p0_h.length = xs_10.length by rw [hz_9, List.length_set])) ?_
  replace hb0 : Box 57 440 (colL [q0, q0_1] col) w_5 g0 #[(.slice a0_2 xs_10.length cap0_2)] := by rw [← (show p0_h.length = xs_10.length by rw [hz_9, List.length_set])]; exact hb0
  clear h0_2
  refine lnil ?_
  refine wseq ?_
  refine wregion ?_
  refine lv (v := (.pointer (some ⟨g0, 0, none⟩))) rfl rfl (r_move rfl) ?_
  refine lv (v := (.slice a0_2 xs_10.length cap0_2)) rfl rfl (r_move rfl) ?_
  refine lv (v := (.int .i64 (IntKind.i64.wrap ((p0_h.length : Int) - 1)))) rfl rfl (r_move rfl) ?_
  obtain ⟨hb_11, hm⟩ := chk_some hm
  refine lv (v := .slice a0_2 (Int.toNat (IntKind.i64.wrap ((p0_h.length : Int) - 1))) cap0_2) rfl rfl (r_sliceH Try.underlying57 Try.sizeOf3 rfl rfl hb_11.1 (by have := h_8.lecap; have := hb_11.2; omega)) ?_
  refine .ld (d := 28) (v := (.slice a0_2 ((xs_10.take (Int.toNat (IntKind.i64.wrap ((p0_h.length : Int) - 1)))).length) cap0_2)) (congrArg (fun n => Value.slice a0_2 n cap0_2) (List.length_take_of_le (show (Int.toNat (IntKind.i64.wrap ((p0_h.length : Int) - 1))) ≤ xs_10.length by have := hb_11.2; omega)).symm) ?_
  refine lv (v := (.pointer (some ⟨g0, 0, none⟩))) rfl rfl (r_nilCheck rfl) ?_
  refine l_bstore (v := (.slice a0_2 ((xs_10.take (Int.toNat (IntKind.i64.wrap ((p0_h.length : Int) - 1)))).length) cap0_2)) hb0 Try.sizeOf57 rfl rfl (by intro u hu; simp only [Value.cells, List.mem_cons, List.not_mem_nil, or_false] at hu; subst hu; rfl) rfl rfl ?_
  intro w_12 hk_13 hs_14 hb_15
  replace h_8 := h_8.kp hk_13 (by decide) (by decide)
  replace hst := hst.kp hk_13 hs_14 (by decide) (by decide)
  clear hb0
  replace hb_15 : Box 57 440 (colL [q0, q0_1] col) w_12 g0 #[(.slice a0_2 ((xs_10.take (Int.toNat (IntKind.i64.wrap ((p0_h.length : Int) - 1)))).length) cap0_2)] := hb_15
  refine lnil ?_
  refine wseq ?_
  refine wregion ?_
  refine lv (v := (.int .i64 0)) rfl rfl (r_assign rfl) ?_
  refine lnil ?_
  refine wblock ?_
  refine wloop (fun n f w_17 => ∃ (col_18 : Col) (a_20 : Option Addr) (cap_21 : Nat) (l_19 : List Int) (i_23 : Int) (n_16 : Nat), n_16 = n ∧ m_dag_heap_pop_L1 N p0_h e_1 n_16 l_19 i_23 = some r ∧ St w0 (colL [q0, q0_1] col) col_18 w_17 ∧ Own (Rep.int .i64) 3 441 col_18 w_17 a_20 cap_21 l_19 ∧ Box 57 440 col_18 w_17 g0 #[(.slice a_20 ((l_19.take (Int.toNat (IntKind.i64.wrap ((p0_h.length : Int) - 1)))).length) cap_21)] ∧ f 3 = (.slice a_20 l_19.length cap_21) ∧ f 4 = (.int .i64 e_1) ∧ f 5 = (.int .i64 (IntKind.i64.wrap ((p0_h.length : Int) - 1))) ∧ f 6 = (.int .i64 i_23) ∧ f 1000000 = (enc [])) N ⟨(colL [q0, q0_1] col), a0_2, cap0_2, xs_10, 0, N, rfl, hm, hst, h_8, hb_15, rfl, rfl, rfl, rfl, rfl⟩ ?_
  clear hm; intro n f w_17 hI
  obtain ⟨col_18, a_20, cap_21, l_19, i_23, n_16, hn, hm, hst, h_22, hb_15, hs3, hs4, hs5, hs6, hs1000000⟩ := hI
  subst hn
  refine .ld (d := 3) (v := (.slice a_20 l_19.length cap_21)) hs3 ?_
  refine .ld (d := 4) (v := (.int .i64 e_1)) hs4 ?_
  refine .ld (d := 5) (v := (.int .i64 (IntKind.i64.wrap ((p0_h.length : Int) - 1)))) hs5 ?_
  refine .ld (d := 6) (v := (.int .i64 i_23)) hs6 ?_
  refine .ld (d := 1000000) (v := (enc [])) hs1000000 ?_
  clear hs3 hs4 hs5 hs6 hs1000000
  cases n_16 with
  | zero => rw [m_dag_heap_pop_L1.eq_1] at hm; cases hm
  | succ n_16 =>
    rw [m_dag_heap_pop_L1.eq_2] at hm
    refine wblock ?_
    refine wseq ?_
    refine wregion ?_
    refine lv (v := (.int .i64 i_23)) rfl rfl (r_move rfl) ?_
    refine lv (v := (.int .i64 i_23)) rfl rfl (r_assign rfl) ?_
    refine lnil ?_
    refine wseq ?_
    refine wseq ?_
    refine wregion ?_
    refine lv (v := (.int .i64 i_23)) rfl rfl (r_move rfl) ?_
    refine lv (v := (.int .i64 (IntKind.i64.wrap (2 * i_23)))) rfl rfl (r_mul 2 i_23 rfl rfl) ?_
    refine lv (v := (.int .i64 (IntKind.i64.wrap ((IntKind.i64.wrap (2 * i_23)) + 1)))) rfl rfl (r_add (IntKind.i64.wrap (2 * i_23)) 1 rfl rfl) ?_
    refine lv (v := (.int .i64 i_23)) rfl rfl (r_move rfl) ?_
    refine lv (v := (.int .i64 (IntKind.i64.wrap (2 * i_23)))) rfl rfl (r_mul 2 i_23 rfl rfl) ?_
    refine lv (v := (.int .i64 (IntKind.i64.wrap ((IntKind.i64.wrap (2 * i_23)) + 2)))) rfl rfl (r_add (IntKind.i64.wrap (2 * i_23)) 2 rfl rfl) ?_
    refine lv (v := (.agg #[(.int .i64 (IntKind.i64.wrap ((IntKind.i64.wrap (2 * i_23)) + 1))), (.int .i64 (IntKind.i64.wrap ((IntKind.i64.wrap (2 * i_23)) + 2)))])) rfl rfl (r_buildA Try.underlying63 Try.sizeOf3 Try.zeroValue63 rfl) ?_
    refine lv (v := (.int .i64 0)) rfl rfl (r_move rfl) ?_
    refine lnil ?_
    refine wblock ?_
    refine wloop (fun n f w_25 => ∃ (col_26 : Col) (v_27 : Int) (least_28 : Int) (n_24 : Nat), n_24 = n ∧ m_dag_heap_pop_L2 N p0_h e_1 l_19 i_23 (m_dag_heap_pop_L1 N p0_h e_1 n_16) n_24 v_27 least_28 = some r ∧ St w0 (colL [q0, q0_1] col) col_26 w_25 ∧ Own (Rep.int .i64) 3 441 col_26 w_25 a_20 cap_21 l_19 ∧ Box 57 440 col_26 w_25 g0 #[(.slice a_20 ((l_19.take (Int.toNat (IntKind.i64.wrap ((p0_h.length : Int) - 1)))).length) cap_21)] ∧ f 3 = (.slice a_20 l_19.length cap_21) ∧ f 37 = (.agg #[(.int .i64 (IntKind.i64.wrap ((IntKind.i64.wrap (2 * i_23)) + 1))), (.int .i64 (IntKind.i64.wrap ((IntKind.i64.wrap (2 * i_23)) + 2)))]) ∧ f 38 = (.int .i64 v_27) ∧ f 4 = (.int .i64 e_1) ∧ f 5 = (.int .i64 (IntKind.i64.wrap ((p0_h.length : Int) - 1))) ∧ f 6 = (.int .i64 i_23) ∧ f 7 = (.int .i64 least_28) ∧ f 1000000 = (enc [])) N ⟨col_18, 0, i_23, N, rfl, hm, hst, h_22, hb_15, rfl, rfl, rfl, rfl, rfl, rfl, rfl, rfl⟩ ?_
    clear hm; intro n f w_25 hI
    obtain ⟨col_26, v_27, least_28, n_24, hn, hm, hst, h_22, hb_15, hs3, hs37, hs38, hs4, hs5, hs6, hs7, hs1000000⟩ := hI
    subst hn
    refine .ld (d := 3) (v := (.slice a_20 l_19.length cap_21)) hs3 ?_
    refine .ld (d := 37) (v := (.agg #[(.int .i64 (IntKind.i64.wrap ((IntKind.i64.wrap (2 * i_23)) + 1))), (.int .i64 (IntKind.i64.wrap ((IntKind.i64.wrap (2 * i_23)) + 2)))])) hs37 ?_
    refine .ld (d := 38) (v := (.int .i64 v_27)) hs38 ?_
    refine .ld (d := 4) (v := (.int .i64 e_1)) hs4 ?_
    refine .ld (d := 5) (v := (.int .i64 (IntKind.i64.wrap ((p0_h.length : Int) - 1)))) hs5 ?_
    refine .ld (d := 6) (v := (.int .i64 i_23)) hs6 ?_
    refine .ld (d := 7) (v := (.int .i64 least_28)) hs7 ?_
    refine .ld (d := 1000000) (v := (enc [])) hs1000000 ?_
    clear hs3 hs37 hs38 hs4 hs5 hs6 hs7 hs1000000
    cases n_24 with
    | zero => rw [m_dag_heap_pop_L2.eq_1] at hm; cases hm
    | succ n_24 =>
      rw [m_dag_heap_pop_L2.eq_2] at hm
      refine wseq ?_
      refine wregion ?_
      refine lv (v := (.bool (decide (v_27 < 2)))) rfl rfl (r_lss v_27 2 rfl rfl) ?_
      refine lnil ?_
      refine wseq ?_
      refine wcond (decide (v_27 < 2)) rfl (fun hb => ?_) (fun hb => ?_)
      · rw [if_pos hb] at hm
        clear hb
        refine wskip ?_
        refine wseq ?_
        refine Wp.cut (fun f w_29 => ∃ (col_30 : Col) (least_31 : Int), m_dag_heap_pop_J1 v_27 (m_dag_heap_pop_L2 N p0_h e_1 l_19 i_23 (m_dag_heap_pop_L1 N p0_h e_1 n_16) n_24) least_31 = some r ∧ St w0 (colL [q0, q0_1] col) col_30 w_29 ∧ Own (Rep.int .i64) 3 441 col_30 w_29 a_20 cap_21 l_19 ∧ Box 57 440 col_30 w_29 g0 #[(.slice a_20 ((l_19.take (Int.toNat (IntKind.i64.wrap ((p0_h.length : Int) - 1)))).length) cap_21)] ∧ f 3 = (.slice a_20 l_19.length cap_21) ∧ f 37 = (.agg #[(.int .i64 (IntKind.i64.wrap ((IntKind.i64.wrap (2 * i_23)) + 1))), (.int .i64 (IntKind.i64.wrap ((IntKind.i64.wrap (2 * i_23)) + 2)))]) ∧ f 38 = (.int .i64 v_27) ∧ f 4 = (.int .i64 e_1) ∧ f 5 = (.int .i64 (IntKind.i64.wrap ((p0_h.length : Int) - 1))) ∧ f 6 = (.int .i64 i_23) ∧ f 7 = (.int .i64 least_31) ∧ f 1000000 = (enc [])) ?_ ?_
        · intro f w_29 hJ
          obtain ⟨col_30, least_31, hm, hst, h_22, hb_15, hs3, hs37, hs38, hs4, hs5, hs6, hs7, hs1000000⟩ := hJ
          rw [m_dag_heap_pop_J1.eq_1] at hm
          refine .ld (d := 3) (v := (.slice a_20 l_19.length cap_21)) hs3 ?_
          refine .ld (d := 37) (v := (.agg #[(.int .i64 (IntKind.i64.wrap ((IntKind.i64.wrap (2 * i_23)) + 1))), (.int .i64 (IntKind.i64.wrap ((IntKind.i64.wrap (2 * i_23)) + 2)))])) hs37 ?_
          refine .ld (d := 38) (v := (.int .i64 v_27)) hs38 ?_
          refine .ld (d := 4) (v := (.int .i64 e_1)) hs4 ?_
          refine .ld (d := 5) (v := (.int .i64 (IntKind.i64.wrap ((p0_h.length : Int) - 1)))) hs5 ?_
          refine .ld (d := 6) (v := (.int .i64 i_23)) hs6 ?_
          refine .ld (d := 7) (v := (.int .i64 least_31)) hs7 ?_
          refine .ld (d := 1000000) (v := (enc [])) hs1000000 ?_
          clear hs3 hs37 hs38 hs4 hs5 hs6 hs7 hs1000000
          refine wregion ?_
          refine lv (v := (.int .i64 (IntKind.i64.wrap (v_27 + 1)))) rfl rfl (r_add v_27 1 rfl rfl) ?_
          refine lv (v := (.int .i64 (IntKind.i64.wrap (v_27 + 1)))) rfl rfl (r_move rfl) ?_
          refine lnil ?_
          exact ⟨n_24, by omega, ⟨col_30, (IntKind.i64.wrap (v_27 + 1)), least_31, n_24, rfl, hm, hst, h_22, hb_15, rfl, rfl, rfl, rfl, rfl, rfl, rfl, rfl⟩⟩
        · refine wblock ?_
          refine wseq ?_
          refine wregion ?_
          obtain ⟨e_32, hj_33, hm⟩ := bind_some hm
          refine lv (v := (.int .i64 e_32)) rfl rfl (r_indexI (l := [IntKind.i64.wrap ((IntKind.i64.wrap (2 * i_23)) + 1), IntKind.i64.wrap ((IntKind.i64.wrap (2 * i_23)) + 2)]) (k := .i64) Try.underlying63 Try.sizeOf3 Try.isAgg3 rfl rfl rfl hj_33) ?_
          refine lv (v := (.int .i64 e_32)) rfl rfl (r_assign rfl) ?_
          refine lnil ?_
          refine wseq ?_
          refine Wp.cut (fun f w_41 => ∃ (col_42 : Col) (v_43 : Bool), m_dag_heap_pop_J2 v_27 least_28 (m_dag_heap_pop_L2 N p0_h e_1 l_19 i_23 (m_dag_heap_pop_L1 N p0_h e_1 n_16) n_24) e_32 v_43 = some r ∧ St w0 (colL [q0, q0_1] col) col_42 w_41 ∧ Own (Rep.int .i64) 3 441 col_42 w_41 a_20 cap_21 l_19 ∧ Box 57 440 col_42 w_41 g0 #[(.slice a_20 ((l_19.take (Int.toNat (IntKind.i64.wrap ((p0_h.length : Int) - 1)))).length) cap_21)] ∧ f 3 = (.slice a_20 l_19.length cap_21) ∧ f 37 = (.agg #[(.int .i64 (IntKind.i64.wrap ((IntKind.i64.wrap (2 * i_23)) + 1))), (.int .i64 (IntKind.i64.wrap ((IntKind.i64.wrap (2 * i_23)) + 2)))]) ∧ f 38 = (.int .i64 v_27) ∧ f 4 = (.int .i64 e_1) ∧ f 5 = (.int .i64 (IntKind.i64.wrap ((p0_h.length : Int) - 1))) ∧ f 54 = (.bool v_43) ∧ f 6 = (.int .i64 i_23) ∧ f 7 = (.int .i64 least_28) ∧ f 9 = (.int .i64 e_32) ∧ f 1000000 = (enc [])) ?_ ?_
          · intro f w_41 hJ
            obtain ⟨col_42, v_43, hm, hst, h_22, hb_15, hs3, hs37, hs38, hs4, hs5, hs54, hs6, hs7, hs9, hs1000000⟩ := hJ
            rw [m_dag_heap_pop_J2.eq_1] at hm
            refine .ld (d := 3) (v := (.slice a_20 l_19.length cap_21)) hs3 ?_
            refine .ld (d := 37) (v := (.agg #[(.int .i64 (IntKind.i64.wrap ((IntKind.i64.wrap (2 * i_23)) + 1))), (.int .i64 (IntKind.i64.wrap ((IntKind.i64.wrap (2 * i_23)) + 2)))])) hs37 ?_
            refine .ld (d := 38) (v := (.int .i64 v_27)) hs38 ?_
            refine .ld (d := 4) (v := (.int .i64 e_1)) hs4 ?_
            refine .ld (d := 5) (v := (.int .i64 (IntKind.i64.wrap ((p0_h.length : Int) - 1)))) hs5 ?_
            refine .ld (d := 54) (v := (.bool v_43)) hs54 ?_
            refine .ld (d := 6) (v := (.int .i64 i_23)) hs6 ?_
            refine .ld (d := 7) (v := (.int .i64 least_28)) hs7 ?_
            refine .ld (d := 9) (v := (.int .i64 e_32)) hs9 ?_
            refine .ld (d := 1000000) (v := (enc [])) hs1000000 ?_
            clear hs3 hs37 hs38 hs4 hs5 hs54 hs6 hs7 hs9 hs1000000
            refine wcond (v_43) rfl (fun hb => ?_) (fun hb => ?_)
            · rw [if_pos hb] at hm
              clear hb
              refine wregion ?_
              refine lv (v := (.int .i64 e_32)) rfl rfl (r_move rfl) ?_
              refine lv (v := (.int .i64 e_32)) rfl rfl (r_assign rfl) ?_
              refine lnil ?_
              exact ⟨col_42, e_32, hm, hst, h_22, hb_15, rfl, rfl, rfl, rfl, rfl, rfl, rfl, rfl⟩
            · rw [if_neg (by rw [hb]; decide)] at hm
              clear hb
              refine wskip ?_
              exact ⟨col_42, least_28, hm, hst, h_22, hb_15, rfl, rfl, rfl, rfl, rfl, rfl, rfl, rfl⟩
          · refine wquiet (col := col_26) (by kernel_rfl) (by kernel_rfl) ?_
            refine qv (v := (.int .i64 e_32)) rfl (fun _ hC => r_move rfl) ?_
            refine qv (v := (.int .i64 (IntKind.i64.wrap ((p0_h.length : Int) - 1)))) rfl (fun _ hC => r_move rfl) ?_
            refine qv (v := (.bool (decide (e_32 < (IntKind.i64.wrap ((p0_h.length : Int) - 1)))))) rfl (fun _ hC => r_lss e_32 (IntKind.i64.wrap ((p0_h.length : Int) - 1)) rfl rfl) ?_
            refine qv (v := (.bool (decide (e_32 < (IntKind.i64.wrap ((p0_h.length : Int) - 1)))))) rfl (fun _ hC => r_move rfl) ?_
            by_cases hg_44 : (decide (e_32 < (IntKind.i64.wrap ((p0_h.length : Int) - 1)))) = true
            · rw [if_pos hg_44] at hm
              refine qg (b := decide (e_32 < (IntKind.i64.wrap ((p0_h.length : Int) - 1)))) 44 rfl rfl rfl (by rw [hg_44]; rfl) ?_
              refine qv (v := (.slice a_20 l_19.length cap_21)) rfl (fun _ hC => r_move rfl) ?_
              refine qg (b := decide (e_32 < (IntKind.i64.wrap ((p0_h.length : Int) - 1)))) 44 rfl rfl rfl (by rw [hg_44]; rfl) ?_
              refine qv (v := (.int .i64 e_32)) rfl (fun _ hC => r_move rfl) ?_
              refine qg (b := decide (e_32 < (IntKind.i64.wrap ((p0_h.length : Int) - 1)))) 44 rfl rfl rfl (by rw [hg_44]; rfl) ?_
              obtain ⟨e_45, hj_46, hm⟩ := bind_some hm
              refine qv (v := (sptr a_20 (Int.toNat e_32 * 1))) rfl (fun _ hC => r_idx Try.underlying57 Try.sizeOf3 rfl rfl (at?_some hj_46).1 (at?_some hj_46).2.1 (h_22.addr hj_46)) ?_
              refine qg (b := decide (e_32 < (IntKind.i64.wrap ((p0_h.length : Int) - 1)))) 44 rfl rfl rfl (by rw [hg_44]; rfl) ?_
              refine qv (v := (.int .i64 e_45)) rfl (fun _ hC => r_ld Try.isAgg3 rfl ((h_22.gr (Grow.of_below (col := col_26) hC.below)).atInt hj_46)) ?_
              refine qg (b := decide (e_32 < (IntKind.i64.wrap ((p0_h.length : Int) - 1)))) 44 rfl rfl rfl (by rw [hg_44]; rfl) ?_
              refine qv (v := (.slice a_20 l_19.length cap_21)) rfl (fun _ hC => r_move rfl) ?_
              refine qg (b := decide (e_32 < (IntKind.i64.wrap ((p0_h.length : Int) - 1)))) 44 rfl rfl rfl (by rw [hg_44]; rfl) ?_
              refine qv (v := (.int .i64 least_28)) rfl (fun _ hC => r_move rfl) ?_
              refine qg (b := decide (e_32 < (IntKind.i64.wrap ((p0_h.length : Int) - 1)))) 44 rfl rfl rfl (by rw [hg_44]; rfl) ?_
              obtain ⟨e_47, hj_48, hm⟩ := bind_some hm
              refine qv (v := (sptr a_20 (Int.toNat least_28 * 1))) rfl (fun _ hC => r_idx Try.underlying57 Try.sizeOf3 rfl rfl (at?_some hj_48).1 (at?_some hj_48).2.1 (h_22.addr hj_48)) ?_
              refine qg (b := decide (e_32 < (IntKind.i64.wrap ((p0_h.length : Int) - 1)))) 44 rfl rfl rfl (by rw [hg_44]; rfl) ?_
              refine qv (v := (.int .i64 e_47)) rfl (fun _ hC => r_ld Try.isAgg3 rfl ((h_22.gr (Grow.of_below (col := col_26) hC.below)).atInt hj_48)) ?_
              refine qg (b := decide (e_32 < (IntKind.i64.wrap ((p0_h.length : Int) - 1)))) 44 rfl rfl rfl (by rw [hg_44]; rfl) ?_
              refine qv (v := (.bool (decide (e_45 < e_47)))) rfl (fun _ hC => r_lss e_45 e_47 rfl rfl) ?_
              refine qv (v := (.bool (decide (e_45 < e_47)))) rfl (fun _ hC => r_pickT (congrArg Value.bool hg_44) rfl) ?_
              refine qnil ?_
              intro w_49 hC
              replace hC : Grow col_26 w_25 col_26 w_49 := .of_below hC.below
              replace h_22 := h_22.gr hC
              replace hb_15 := hb_15.gr hC
              replace hst := hst.grow hC
              exact ⟨col_26, (decide (e_45 < e_47)), hm, hst, h_22, hb_15, rfl, rfl, rfl, rfl, rfl, rfl, rfl, rfl, rfl, rfl⟩
            · rw [if_neg hg_44] at hm
              replace hg_44 := Bool.eq_false_iff.2 hg_44
              refine qp (b := decide (e_32 < (IntKind.i64.wrap ((p0_h.length : Int) - 1)))) 44 rfl rfl rfl rfl (by rw [hg_44]; rfl) ?_
              refine qp (b := decide (e_32 < (IntKind.i64.wrap ((p0_h.length : Int) - 1)))) 44 rfl rfl rfl rfl (by rw [hg_44]; rfl) ?_
              refine qp (b := decide (e_32 < (IntKind.i64.wrap ((p0_h.length : Int) - 1)))) 44 rfl rfl rfl rfl (by rw [hg_44]; rfl) ?_
              refine qp (b := decide (e_32 < (IntKind.i64.wrap ((p0_h.length : Int) - 1)))) 44 rfl rfl rfl rfl (by rw [hg_44]; rfl) ?_
              refine qp (b := decide (e_32 < (IntKind.i64.wrap ((p0_h.length : Int) - 1)))) 44 rfl rfl rfl rfl (by rw [hg_44]; rfl) ?_
              refine qp (b := decide (e_32 < (IntKind.i64.wrap ((p0_h.length : Int) - 1)))) 44 rfl rfl rfl rfl (by rw [hg_44]; rfl) ?_
              refine qp (b := decide (e_32 < (IntKind.i64.wrap ((p0_h.length : Int) - 1)))) 44 rfl rfl rfl rfl (by rw [hg_44]; rfl) ?_
              refine qp (b := decide (e_32 < (IntKind.i64.wrap ((p0_h.length : Int) - 1)))) 44 rfl rfl rfl rfl (by rw [hg_44]; rfl) ?_
              refine qp (b := decide (e_32 < (IntKind.i64.wrap ((p0_h.length : Int) - 1)))) 44 rfl rfl rfl rfl (by rw [hg_44]; rfl) ?_
              refine qv (v := (.bool false)) rfl (fun _ hC => r_pickF (congrArg Value.bool hg_44) rfl) ?_
              refine qnil ?_
              intro w_50 hC
              replace hC : Grow col_26 w_25 col_26 w_50 := .of_below hC.below
              replace h_22 := h_22.gr hC
              replace hb_15 := hb_15.gr hC
              replace hst := hst.grow hC
              exact ⟨col_26, false, hm, hst, h_22, hb_15, rfl, rfl, rfl, rfl, rfl, rfl, rfl, rfl, rfl, rfl⟩
      · rw [if_neg (by rw [hb]; decide)] at hm
        clear hb
        refine wexit (inB_hit ?_)
        refine wseq ?_
        refine wseq ?_
        refine wregion ?_
        refine lv (v := (.int .i64 least_28)) rfl rfl (r_move rfl) ?_
        refine lv (v := (.int .i64 i_23)) rfl rfl (r_move rfl) ?_
        refine lv (v := (.bool (decide (least_28 = i_23)))) rfl rfl (r_eql least_28 i_23 rfl rfl) ?_
        refine lnil ?_
        refine wcond (decide (least_28 = i_23)) rfl (fun hb => ?_) (fun hb => ?_)
        · rw [if_pos hb] at hm
          clear hb
          refine wseq ?_
          refine wregion ?_
          refine lv (v := (.int .i64 e_1)) rfl rfl (r_move rfl) ?_
          refine lv (v := (.int .i64 e_1)) rfl rfl (r_assign rfl) ?_
          refine lnil ?_
          refine wret ?_
          cases hm
          exact ⟨rfl, colFL w0.heap.size [q0, q0_1] col col_26 (fun n => bif Nat.beq n 441 then q0_1 else bif Nat.beq n 440 then q0 else 0), a_20, cap_21, rfl, hst.finL rfl (fun n => bif Nat.beq n 441 then q0_1 else bif Nat.beq n 440 then q0 else 0), hst.finOwnL (g := (fun n => bif Nat.beq n 441 then q0_1 else bif Nat.beq n 440 then q0 else 0)) rfl (h_22.take (Int.toNat (IntKind.i64.wrap ((p0_h.length : Int) - 1)))) (by decide) (by decide) rfl, hst.finBoxL (g := (fun n => bif Nat.beq n 441 then q0_1 else bif Nat.beq n 440 then q0 else 0)) hb_15 (by decide) (by decide) rfl⟩
        · rw [if_neg (by rw [hb]; decide)] at hm
          clear hb
          refine wskip ?_
          refine wseq ?_
          refine wmix (col := col_26) [(0, 1), (1, 1), (2, 1), (3, 1), (4, 1), (5, 1), (6, 1), (7, 0), (8, 1), (9, 1), (10, 1), (11, 0), (12, 1), (13, 2), (14, 1), (15, 2)] (by kernel_rfl) (by kernel_rfl) ?_
          refine xu (v := (.slice a_20 l_19.length cap_21)) rfl rfl (fun _ => r_move rfl) ?_
          refine xu (v := (.int .i64 i_23)) rfl rfl (fun _ => r_move rfl) ?_
          refine xu (v := (.slice a_20 l_19.length cap_21)) rfl rfl (fun _ => r_move rfl) ?_
          refine xu (v := (.int .i64 least_28)) rfl rfl (fun _ => r_move rfl) ?_
          refine xu (v := (.slice a_20 l_19.length cap_21)) rfl rfl (fun _ => r_move rfl) ?_
          refine xu (v := (.int .i64 least_28)) rfl rfl (fun _ => r_move rfl) ?_
          obtain ⟨e_51, hj_52, hm⟩ := bind_some hm
          refine xu (v := (sptr a_20 (Int.toNat least_28 * 1))) rfl rfl (fun _ => r_idx Try.underlying57 Try.sizeOf3 rfl rfl (at?_some hj_52).1 (at?_some hj_52).2.1 (h_22.addr hj_52)) ?_
          refine xv (v := (.int .i64 e_51)) rfl rfl (fun _ hC => r_ld Try.isAgg3 rfl ((h_22.gr (Grow.of_below (col := col_26) hC.below)).atInt hj_52)) ?_
          refine xu (v := (.slice a_20 l_19.length cap_21)) rfl rfl (fun _ => r_move rfl) ?_
          refine xu (v := (.int .i64 i_23)) rfl rfl (fun _ => r_move rfl) ?_
          obtain ⟨e_53, hj_54, hm⟩ := bind_some hm
          refine xu (v := (sptr a_20 (Int.toNat i_23 * 1))) rfl rfl (fun _ => r_idx Try.underlying57 Try.sizeOf3 rfl rfl (at?_some hj_54).1 (at?_some hj_54).2.1 (h_22.addr hj_54)) ?_
          refine xv (v := (.int .i64 e_53)) rfl rfl (fun _ hC => r_ld Try.isAgg3 rfl ((h_22.gr (Grow.of_below (col := col_26) hC.below)).atInt hj_54)) ?_
          refine xu (v := (sptr a_20 (Int.toNat i_23 * 1))) rfl rfl (fun _ => r_idx Try.underlying57 Try.sizeOf3 rfl rfl (at?_some hj_54).1 (at?_some hj_54).2.1 (h_22.addr hj_54)) ?_
          refine xe rfl rfl ?_
          intro w_55 hC0
          have hC : Grow col_26 w_25 col_26 w_55 := .of_below hC0.below
          replace h_22 := h_22.gr hC
          replace hb_15 := hb_15.gr hC
          replace hst := hst.grow hC
          obtain ⟨xs_61, hz_60, hm⟩ := bind_some hm
          have hz_60 : xs_61 = l_19.set (Int.toNat i_23) e_51 := (Option.some.inj hz_60).symm
          refine l_store (x1 := e_51) (v := (.int .i64 e_51)) h_22 hj_54 rfl Try.sizeOf3 (rd_int .i64 e_51) rfl rfl (by decide) ?_
          intro w_56 hk_57 hs_58 h_59
          rw [← hz_60] at h_59
          replace hb_15 := hb_15.kp hk_57 (by decide)
          replace hst := hst.kp hk_57 hs_58 (by decide) (by decide)
          refine .ld (d := 3) (v := (.slice a_20 xs_61.length cap_21)) (congrArg (fun n => Value.slice a_20 n cap_21) (show l_19.length = xs_61.length by rw [hz_60, List.length_set])) ?_
          refine .ld (d := 63) (v := (.slice a_20 xs_61.length cap_21)) (congrArg (fun n => Value.slice a_20 n cap_21) (show l_19.length = xs_61.length by rw [hz_60, List.length_set])) ?_
          replace hb_15 : Box 57 440 col_26 w_56 g0 #[(.slice a_20 ((xs_61.take (Int.toNat (IntKind.i64.wrap ((p0_h.length : Int) - 1)))).length) cap_21)] := by rw [← (show (l_19.take (Int.toNat (IntKind.i64.wrap ((p0_h.length : Int) - 1)))).length = (xs_61.take (Int.toNat (IntKind.i64.wrap ((p0_h.length : Int) - 1)))).length by rw [List.length_take, List.length_take, (show l_19.length = xs_61.length by rw [hz_60, List.length_set])])]; exact hb_15
          clear h_22
          refine lnil ⟨fun w' => Grow col_26 w_56 col_26 w', Grow.refl _ _, fun h => absurd h (by decide), ?_⟩
          obtain ⟨e_62, hj_63, hm⟩ := bind_some hm
          refine xu (v := (sptr a_20 (Int.toNat least_28 * 1))) rfl rfl (fun _ => r_idx Try.underlying57 Try.sizeOf3 rfl rfl (at?_some hj_63).1 (at?_some hj_63).2.1 (h_59.addr hj_63)) ?_
          refine xe rfl rfl ?_
          intro w_64 hC0
          have hC : Grow col_26 w_56 col_26 w_64 := .of_below hC0.below
          replace h_59 := h_59.gr hC
          replace hb_15 := hb_15.gr hC
          replace hst := hst.grow hC
          obtain ⟨xs_70, hz_69, hm⟩ := bind_some hm
          have hz_69 : xs_70 = xs_61.set (Int.toNat least_28) e_53 := (Option.some.inj hz_69).symm
          refine l_store (x1 := e_53) (v := (.int .i64 e_53)) h_59 hj_63 rfl Try.sizeOf3 (rd_int .i64 e_53) rfl rfl (by decide) ?_
          intro w_65 hk_66 hs_67 h_68
          rw [← hz_69] at h_68
          replace hb_15 := hb_15.kp hk_66 (by decide)
          replace hst := hst.kp hk_66 hs_67 (by decide) (by decide)
          refine .ld (d := 3) (v := (.slice a_20 xs_70.length cap_21)) (congrArg (fun n => Value.slice a_20 n cap_21) (show xs_61.length = xs_70.length by rw [hz_69, List.length_set])) ?_
          replace hb_15 : Box 57 440 col_26 w_65 g0 #[(.slice a_20 ((xs_70.take (Int.toNat (IntKind.i64.wrap ((p0_h.length : Int) - 1)))).length) cap_21)] := by rw [← (show (xs_61.take (Int.toNat (IntKind.i64.wrap ((p0_h.length : Int) - 1)))).length = (xs_70.take (Int.toNat (IntKind.i64.wrap ((p0_h.length : Int) - 1)))).length by rw [List.length_take, List.length_take, (show xs_61.length = xs_70.length by rw [hz_69, List.length_set])])]; exact hb_15
          clear h_59
          refine lnil ⟨fun w' => Grow col_26 w_65 col_26 w', Grow.refl _ _, fun h => absurd h (by decide), ?_⟩
          refine xnil ?_
          intro w_71 hC
          replace hC : Grow col_26 w_65 col_26 w_71 := .of_below hC.below
          replace h_68 := h_68.gr hC
          replace hb_15 := hb_15.gr hC
          replace hst := hst.grow hC
          refine wregion ?_
          refine lv (v := (.int .i64 least_28)) rfl rfl (r_move rfl) ?_
          refine lv (v := (.int .i64 least_28)) rfl rfl (r_assign rfl) ?_
          refine lnil ?_
          exact ⟨n_16, by omega, ⟨col_26, a_20, cap_21, xs_70, least_28, n_16, rfl, hm, hst, h_68, hb_15, rfl, rfl, rfl, rfl, rfl⟩⟩



theorem el3_28 : ElemOk Try.prog 3 1 8 := ⟨Try.t3, _, rfl, rfl, rfl, rfl, rfl⟩

def m_dag_sorted_J1 (kk_L3 : ((List Int) → (List Int) → Option (List Int))) (left_85 : List Int) (ready_89 : List Int) : Option (List Int) :=
  kk_L3 left_85 ready_89

def m_dag_sorted_L3 (N : Nat) (out_37 : List Int) (kk_L2 : ((List Int) → (List Int) → (List Int) → Option (List Int))) (r_41 : (Int × (List Int))) : List Int → (List Int) → (List Int) → Option (List Int)
  | [], left_73, ready_77 => kk_L2 left_73 ready_77 (out_37 ++ [r_41.1])
  | x_81 :: l_82, left_73, ready_77 => (at? left_73 x_81).bind fun e_93 => (some (left_73.set (Int.toNat x_81) (IntKind.i64.wrap (e_93 - 1)))).bind fun xs_100 => (at? xs_100 x_81).bind fun e_101 => if (decide (e_101 = 0)) = true then ((m_dag_heap_push N ready_77 x_81).bind fun r_103 => m_dag_sorted_J1 (m_dag_sorted_L3 N out_37 kk_L2 r_41 l_82) xs_100 r_103) else (m_dag_sorted_J1 (m_dag_sorted_L3 N out_37 kk_L2 r_41 l_82) xs_100 ready_77)

def m_dag_sorted_L2 (N : Nat) (p1_down : (List (List Int))) : Nat → (List Int) → (List Int) → (List Int) → Option (List Int)
  | 0, _, _, _ => none
  | n_26 + 1, left_29, ready_33, out_37 => if (decide (0 < (ready_33.length : Int))) = true then ((m_dag_heap_pop N ready_33).bind fun r_41 => chk ((out_37.length + [r_41.1].length) * 8 ≤ 140737488355328 ∧ out_37.length + [r_41.1].length ≤ maxLen) ((at? p1_down r_41.1).bind fun e_62 => m_dag_sorted_L3 N out_37 (m_dag_sorted_L2 N p1_down n_26) r_41 e_62 left_29 r_41.2)) else (some out_37)

def m_dag_sorted_J2 (k_12 : Nat) (kk_L1 : (Nat → (List Int) → (List Int) → Option (List Int))) (left_114 : List Int) (ready_118 : List Int) : Option (List Int) :=
  kk_L1 (k_12 + 1) left_114 ready_118

def m_dag_sorted_L1 (N : Nat) (p1_down : (List (List Int))) : List (List Int) → Nat → (List Int) → (List Int) → Option (List Int)
  | [], k_12, left_16, ready_20 => m_dag_sorted_L2 N p1_down N left_16 ready_20 ([] : List Int)
  | x_24 :: l_25, k_12, left_16, ready_20 => (at? left_16 (k_12 : Int)).bind fun e_127 => (some (left_16.set (Int.toNat (k_12 : Int)) (x_24.length : Int))).bind fun xs_134 => if (decide ((x_24.length : Int) = 0)) = true then ((m_dag_heap_push N ready_20 (k_12 : Int)).bind fun r_135 => m_dag_sorted_J2 k_12 (m_dag_sorted_L1 N p1_down l_25) xs_134 r_135) else (m_dag_sorted_J2 k_12 (m_dag_sorted_L1 N p1_down l_25) xs_134 ready_20)

def m_dag_sorted (N : Nat) (p0_parents : (List (List Int))) (p1_down : (List (List Int))) : Option (List Int) :=
  chk (p0_parents.length * 8 ≤ 281474976710656 ∧ p0_parents.length ≤ maxLen) (m_dag_sorted_L1 N p1_down p0_parents 0 (List.replicate p0_parents.length (0 : Int)) ([] : List Int))

set_option maxRecDepth 100000 in
theorem c_dag_sorted (N : Nat) (c1 : Nat) (col : Col) (w0 : World) (a0 : Option Addr) (cap0 : Nat) (p0_parents : (List (List Int))) (a1 : Option Addr) (cap1 : Nat) (p1_down : (List (List Int))) (h0 : Sl (Rep.slice (Rep.int .i64)) col w0 a0 cap0 p0_parents) (h1 : Sl (Rep.slice (Rep.int .i64)) col w0 a1 cap1 p1_down) (r : (List Int)) (hm : m_dag_sorted N p0_parents p1_down = some r) :
    Calls Try.prog 28 #[(.slice a0 p0_parents.length cap0), (.slice a1 p1_down.length cap1)] w0 (fun e w' => ∃ (col' : Col) (ra1 : Option Addr) (rc2 : Nat), e = .returned ((.slice ra1 r.length rc2)) ∧ Grow col w0 col' w' ∧ Own (Rep.int .i64) 3 c1 col' w' ra1 rc2 r) := by
  refine calls_of1 4 (m := 66) (args := [(.slice a0 p0_parents.length cap0), (.slice a1 p1_down.length cap1)]) Try.func28 rfl rfl rfl rfl rfl ?_
  rw [m_dag_sorted.eq_1] at hm
  have hst := St.start col w0
  replace h0 := h0.keep (Stay.start col w0)
  replace h1 := h1.keep (Stay.start col w0)
  refine wseq ?_
  refine wregion ?_
  refine lv (v := (.slice none (([] : List Int).length) 0)) rfl rfl (r_assign rfl) ?_
  refine lnil ?_
  refine wseq ?_
  refine wregion ?_
  refine lv (v := (.slice a0 p0_parents.length cap0)) rfl rfl (r_move rfl) ?_
  refine lv (v := (.int .i64 (p0_parents.length : Int))) rfl rfl (r_len Try.underlying22 rfl) ?_
  obtain ⟨hb_1, hm⟩ := chk_some hm
  refine l_make (col := (col0 col)) (w := w0) (r := (Rep.int .i64)) (n := p0_parents.length) (x0 := 0) 1 rfl Try.underlying31 Try.t3 rfl rfl rfl rfl rfl rfl rfl hb_1.1 hb_1.2 (rd_int .i64 0) ?_
  intro a_2 w_3 col_4 hg_5 h_6
  replace h0 := h0.gr hg_5
  replace h1 := h1.gr hg_5
  replace hst := hst.grow hg_5
  refine lv (v := (.slice a_2 ((List.replicate p0_parents.length (0 : Int)).length) p0_parents.length)) rfl rfl (r_assign rfl) ?_
  refine lnil ?_
  refine wseq ?_
  refine wregion ?_
  refine l_alloc (col := col_4) (v := (.slice none (([] : List Int).length) 0)) 2 rfl Try.zeroValue57 ?_
  intro g_7 w_8 col_9 hg_10 hb_11
  replace h0 := h0.gr hg_10
  replace h1 := h1.gr hg_10
  replace h_6 := h_6.gr hg_10
  replace hst := hst.grow hg_10
  replace hb_11 : Box 57 2 col_9 w_8 g_7 #[(.slice none (([] : List Int).length) 0)] := hb_11
  refine lnil ?_
  refine wseq ?_
  refine wseq ?_
  refine wregion ?_
  refine lv (v := (.slice a0 p0_parents.length cap0)) rfl rfl (r_move rfl) ?_
  refine lv (v := (.int .i64 (p0_parents.length : Int))) rfl rfl (r_len Try.underlying22 rfl) ?_
  refine lv (v := (.int .i64 0)) rfl rfl (r_move rfl) ?_
  refine lnil ?_
  refine wblock ?_
  refine wloop (fun n f w_14 => ∃ (col_15 : Col) (k_12 : Nat) (a_17 : Option Addr) (cap_18 : Nat) (left_16 : List Int) (a_21 : Option Addr) (cap_22 : Nat) (ready_20 : List Int) (l_13 : List (List Int)), n = l_13.length ∧ p0_parents.drop k_12 = l_13 ∧ m_dag_sorted_L1 N p1_down l_13 k_12 left_16 ready_20 = some r ∧ St w0 (col0 col) col_15 w_14 ∧ Sl (Rep.slice (Rep.int .i64)) col_15 w_14 a1 cap1 p1_down ∧ Sl (Rep.slice (Rep.int .i64)) col_15 w_14 a0 cap0 p0_parents ∧ Own (Rep.int .i64) 3 1 col_15 w_14 a_17 cap_18 left_16 ∧ Own (Rep.int .i64) 3 3 col_15 w_14 a_21 cap_22 ready_20 ∧ Box 57 2 col_15 w_14 g_7 #[(.slice a_21 ready_20.length cap_22)] ∧ f 18 = (.int .i64 (k_12 : Int)) ∧ f 1 = (.slice a1 p1_down.length cap1) ∧ f 16 = (.slice a0 p0_parents.length cap0) ∧ f 17 = (.int .i64 (p0_parents.length : Int)) ∧ f 5 = (.slice a_17 left_16.length cap_18) ∧ f 6 = (.pointer (some ⟨g_7, 0, none⟩)) ∧ f 1000000 = (enc [])) p0_parents.length ⟨col_9, 0, a_2, p0_parents.length, (List.replicate p0_parents.length (0 : Int)), none, 0, ([] : List Int), p0_parents, rfl, rfl, hm, hst, h1, h0, h_6, Own.nil, hb_11, rfl, rfl, rfl, rfl, rfl, rfl, rfl⟩ ?_
  clear hm; intro n f w_14 hI
  obtain ⟨col_15, k_12, a_17, cap_18, left_16, a_21, cap_22, ready_20, l_13, hn, hl, hm, hst, h1, h0, h_19, h_23, hb_11, hs18, hs1, hs16, hs17, hs5, hs6, hs1000000⟩ := hI
  subst hn
  refine .ld (d := 18) (v := (.int .i64 (k_12 : Int))) hs18 ?_
  refine .ld (d := 1) (v := (.slice a1 p1_down.length cap1)) hs1 ?_
  refine .ld (d := 16) (v := (.slice a0 p0_parents.length cap0)) hs16 ?_
  refine .ld (d := 17) (v := (.int .i64 (p0_parents.length : Int))) hs17 ?_
  refine .ld (d := 5) (v := (.slice a_17 left_16.length cap_18)) hs5 ?_
  refine .ld (d := 6) (v := (.pointer (some ⟨g_7, 0, none⟩))) hs6 ?_
  refine .ld (d := 1000000) (v := (enc [])) hs1000000 ?_
  clear hs18 hs1 hs16 hs17 hs5 hs6 hs1000000
  cases l_13 with
  | nil =>
    have hk : ¬ ((k_12 : Int) < (p0_parents.length : Int)) := by have := List.drop_eq_nil_iff.1 hl; omega
    have hkb := decide_eq_false hk
    rw [m_dag_sorted_L1.eq_1] at hm
    refine wseq ?_
    refine wregion ?_
    refine lv (v := (.bool (decide ((k_12 : Int) < (p0_parents.length : Int))))) rfl rfl (r_lss (k_12 : Int) (p0_parents.length : Int) rfl rfl) ?_
    refine lnil ?_
    refine wseq ?_
    refine wcondF (congrArg Value.bool hkb) ?_
    refine wexit (inB_hit ?_)
    refine wseq ?_
    refine wregion ?_
    refine lv (v := (.slice none (([] : List Int).length) 0)) rfl rfl (r_assign rfl) ?_
    refine lnil ?_
    refine wseq ?_
    refine wblock ?_
    refine wloop (fun n f w_27 => ∃ (col_28 : Col) (a_30 : Option Addr) (cap_31 : Nat) (left_29 : List Int) (a_34 : Option Addr) (cap_35 : Nat) (ready_33 : List Int) (a_38 : Option Addr) (cap_39 : Nat) (out_37 : List Int) (n_26 : Nat), n_26 = n ∧ m_dag_sorted_L2 N p1_down n_26 left_29 ready_33 out_37 = some r ∧ St w0 (col0 col) col_28 w_27 ∧ Sl (Rep.slice (Rep.int .i64)) col_28 w_27 a1 cap1 p1_down ∧ Own (Rep.int .i64) 3 1 col_28 w_27 a_30 cap_31 left_29 ∧ Own (Rep.int .i64) 3 3 col_28 w_27 a_34 cap_35 ready_33 ∧ Box 57 2 col_28 w_27 g_7 #[(.slice a_34 ready_33.length cap_35)] ∧ Own (Rep.int .i64) 3 4 col_28 w_27 a_38 cap_39 out_37 ∧ f 1 = (.slice a1 p1_down.length cap1) ∧ f 5 = (.slice a_30 left_29.length cap_31) ∧ f 6 = (.pointer (some ⟨g_7, 0, none⟩)) ∧ f 9 = (.slice a_38 out_37.length cap_39) ∧ f 1000000 = (enc [])) N ⟨col_15, a_17, cap_18, left_16, a_21, cap_22, ready_20, none, 0, ([] : List Int), N, rfl, hm, hst, h1, h_19, h_23, hb_11, Own.nil, rfl, rfl, rfl, rfl, rfl⟩ ?_
    clear hm; intro n f w_27 hI
    obtain ⟨col_28, a_30, cap_31, left_29, a_34, cap_35, ready_33, a_38, cap_39, out_37, n_26, hn, hm, hst, h1, h_32, h_36, hb_11, h_40, hs1, hs5, hs6, hs9, hs1000000⟩ := hI
    subst hn
    refine .ld (d := 1) (v := (.slice a1 p1_down.length cap1)) hs1 ?_
    refine .ld (d := 5) (v := (.slice a_30 left_29.length cap_31)) hs5 ?_
    refine .ld (d := 6) (v := (.pointer (some ⟨g_7, 0, none⟩))) hs6 ?_
    refine .ld (d := 9) (v := (.slice a_38 out_37.length cap_39)) hs9 ?_
    refine .ld (d := 1000000) (v := (enc [])) hs1000000 ?_
    clear hs1 hs5 hs6 hs9 hs1000000
    cases n_26 with
    | zero => rw [m_dag_sorted_L2.eq_1] at hm; cases hm
    | succ n_26 =>
      rw [m_dag_sorted_L2.eq_2] at hm
      refine wseq ?_
      refine wseq ?_
      refine wregion ?_
      refine lv (v := (.slice a_34 ready_33.length cap_35)) rfl rfl (r_ld Try.isAgg57 rfl hb_11.at1) ?_
      refine lv (v := (.int .i64 (ready_33.length : Int))) rfl rfl (r_len Try.underlying57 rfl) ?_
      refine lv (v := (.bool (decide (0 < (ready_33.length : Int))))) rfl rfl (r_gtr (ready_33.length : Int) 0 rfl rfl) ?_
      refine lnil ?_
      refine wcond (decide (0 < (ready_33.length : Int))) rfl (fun hb => ?_) (fun hb => ?_)
      · rw [if_pos hb] at hm
        clear hb
        refine wskip ?_
        refine wblock ?_
        refine wseq ?_
        refine wregion ?_
        obtain ⟨r_41, hr_42, hm⟩ := bind_some hm
        refine lc rfl rfl (r_call1 Try.call40 rfl) (c_dag_heap_pop N col_28 _ 2 3 rfl g_7 ready_33 a_34 cap_35 h_36 hb_11 r_41 hr_42) ?_
        rintro _ w_47 ⟨col_49, oa_43, oc_44, rfl, hg_48, oh_45, ohb_46⟩
        refine ⟨_, rfl, ?_⟩
        replace h1 := h1.kpp hg_48 rfl
        replace h_32 := h_32.kpp hg_48 rfl rfl
        replace h_40 := h_40.kpp hg_48 rfl rfl
        replace hst := hst.kpp hg_48 rfl rfl
        clear h_36
        clear hb_11
        refine lv (v := (.int .i64 r_41.1)) rfl rfl (r_assign rfl) ?_
        refine lnil ?_
        refine wseq ?_
        refine wregion ?_
        refine lv (v := (.slice a_38 out_37.length cap_39)) rfl rfl (r_move rfl) ?_
        refine lv (v := (.int .i64 r_41.1)) rfl rfl (r_move rfl) ?_
        refine l_lit (col := col_49) (r := (Rep.int .i64)) (xs := [r_41.1]) [(.int .i64 r_41.1)] 5 rfl Try.underlying31 el3_28 rfl rfl rfl rfl rfl rfl (by intro v hv; simp only [List.mem_cons, List.not_mem_nil, or_false] at hv; subst hv; rfl) (RowsH.ofF (Rows.consF (r := (Rep.int .i64)) (x := r_41.1) (cs := [(.int .i64 r_41.1)]) (rd_int .i64 r_41.1) Rows.nil0)) ?_
        intro a_50 w_51 col_52 hg_53 h_54
        replace h1 := h1.gr hg_53
        replace h_32 := h_32.gr hg_53
        replace oh_45 := oh_45.gr hg_53
        replace h_40 := h_40.gr hg_53
        replace ohb_46 := ohb_46.gr hg_53
        replace hst := hst.grow hg_53
        obtain ⟨hb_55, hm⟩ := chk_some hm
        refine l_appendM (col := col_52) (w := w_51) (r := (Rep.int .i64)) (c := 4) (c2 := 4) (xs := out_37) (ys := [r_41.1]) h_40 (h_54.srcN (NB.int (k := .i64))) rfl Try.underlying31 el3_28 rfl rfl rfl hb_55.1 hb_55.2 (by decide) ?_
        intro a_56 cap_57 w_58 col_59 hk_60 h_61
        replace h1 := h1.kpp hk_60 rfl
        replace h_32 := h_32.kpp hk_60 rfl rfl
        replace oh_45 := oh_45.kpp hk_60 rfl rfl
        replace h_54 := h_54.kpp hk_60 rfl rfl
        replace ohb_46 := ohb_46.kpp hk_60 rfl
        replace hst := hst.kpp hk_60 rfl rfl
        clear h_40
        refine lv (v := (.slice a_56 ((out_37 ++ [r_41.1]).length) cap_57)) rfl rfl (r_assign rfl) ?_
        refine lnil ?_
        refine wseq ?_
        refine wregion ?_
        refine lv (v := (.slice a1 p1_down.length cap1)) rfl rfl (r_move rfl) ?_
        refine lv (v := (.int .i64 r_41.1)) rfl rfl (r_move rfl) ?_
        obtain ⟨e_62, hj_63, hm⟩ := bind_some hm
        refine lv (v := (sptr a1 (Int.toNat r_41.1 * 1))) rfl rfl (r_idx Try.underlying22 Try.sizeOf31 rfl rfl (at?_some hj_63).1 (at?_some hj_63).2.1 (h1.addr hj_63)) ?_
        obtain ⟨_, hr_64, hA_65⟩ := h1.atN hj_63
        obtain ⟨⟨a_66, cap_67, rfl, h_68⟩, _⟩ := hr_64
        refine lv (v := (.slice a_66 e_62.length cap_67)) rfl rfl (r_ld Try.isAgg31 rfl hA_65.one) ?_
        refine lv (v := (.int .i64 (e_62.length : Int))) rfl rfl (r_len Try.underlying31 rfl) ?_
        refine lv (v := (.int .i64 0)) rfl rfl (r_move rfl) ?_
        refine lnil ?_
        refine wblock ?_
        refine wloop (fun n f w_71 => ∃ (col_72 : Col) (k_69 : Nat) (a_74 : Option Addr) (cap_75 : Nat) (left_73 : List Int) (a_78 : Option Addr) (cap_79 : Nat) (ready_77 : List Int) (l_70 : List Int), n = l_70.length ∧ e_62.drop k_69 = l_70 ∧ m_dag_sorted_L3 N out_37 (m_dag_sorted_L2 N p1_down n_26) r_41 l_70 left_73 ready_77 = some r ∧ St w0 (col0 col) col_72 w_71 ∧ Sl (Rep.slice (Rep.int .i64)) col_72 w_71 a1 cap1 p1_down ∧ Sl (Rep.int .i64) col_72 w_71 a_66 cap_67 e_62 ∧ Own (Rep.int .i64) 3 1 col_72 w_71 a_74 cap_75 left_73 ∧ Own (Rep.int .i64) 3 3 col_72 w_71 a_78 cap_79 ready_77 ∧ Box 57 2 col_72 w_71 g_7 #[(.slice a_78 ready_77.length cap_79)] ∧ Own (Rep.int .i64) 3 4 col_72 w_71 a_56 cap_57 (out_37 ++ [r_41.1]) ∧ f 47 = (.int .i64 (k_69 : Int)) ∧ f 1 = (.slice a1 p1_down.length cap1) ∧ f 45 = (.slice a_66 e_62.length cap_67) ∧ f 46 = (.int .i64 (e_62.length : Int)) ∧ f 5 = (.slice a_74 left_73.length cap_75) ∧ f 6 = (.pointer (some ⟨g_7, 0, none⟩)) ∧ f 9 = (.slice a_56 ((out_37 ++ [r_41.1]).length) cap_57) ∧ f 1000000 = (enc [])) e_62.length ⟨col_59, 0, a_30, cap_31, left_29, oa_43, oc_44, r_41.2, e_62, rfl, rfl, hm, hst, h1, h_68, h_32, oh_45, ohb_46, h_61, rfl, rfl, rfl, rfl, rfl, rfl, rfl, rfl⟩ ?_
        clear hm; intro n f w_71 hI
        obtain ⟨col_72, k_69, a_74, cap_75, left_73, a_78, cap_79, ready_77, l_70, hn, hl, hm, hst, h1, h_68, h_76, h_80, ohb_46, h_61, hs47, hs1, hs45, hs46, hs5, hs6, hs9, hs1000000⟩ := hI
        subst hn
        refine .ld (d := 47) (v := (.int .i64 (k_69 : Int))) hs47 ?_
        refine .ld (d := 1) (v := (.slice a1 p1_down.length cap1)) hs1 ?_
        refine .ld (d := 45) (v := (.slice a_66 e_62.length cap_67)) hs45 ?_
        refine .ld (d := 46) (v := (.int .i64 (e_62.length : Int))) hs46 ?_
        refine .ld (d := 5) (v := (.slice a_74 left_73.length cap_75)) hs5 ?_
        refine .ld (d := 6) (v := (.pointer (some ⟨g_7, 0, none⟩))) hs6 ?_
        refine .ld (d := 9) (v := (.slice a_56 ((out_37 ++ [r_41.1]).length) cap_57)) hs9 ?_
        refine .ld (d := 1000000) (v := (enc [])) hs1000000 ?_
        clear hs47 hs1 hs45 hs46 hs5 hs6 hs9 hs1000000
        cases l_70 with
        | nil =>
          have hk : ¬ ((k_69 : Int) < (e_62.length : Int)) := by have := List.drop_eq_nil_iff.1 hl; omega
          have hkb := decide_eq_false hk
          rw [m_dag_sorted_L3.eq_1] at hm
          refine wseq ?_
          refine wregion ?_
          refine lv (v := (.bool (decide ((k_69 : Int) < (e_62.length : Int))))) rfl rfl (r_lss (k_69 : Int) (e_62.length : Int) rfl rfl) ?_
          refine lnil ?_
          refine wseq ?_
          refine wcondF (congrArg Value.bool hkb) ?_
          refine wexit (inB_hit ?_)
          exact ⟨n_26, by omega, ⟨col_72, a_74, cap_75, left_73, a_78, cap_79, ready_77, a_56, cap_57, (out_37 ++ [r_41.1]), n_26, rfl, hm, hst, h1, h_76, h_80, ohb_46, h_61, rfl, rfl, rfl, rfl, rfl⟩⟩
        | cons x_81 l_82 =>
          obtain ⟨hat, hl2, hlt⟩ := drop_get hl
          have hk : (k_69 : Int) < (e_62.length : Int) := by omega
          have hkb := decide_eq_true hk
          rw [m_dag_sorted_L3.eq_2] at hm
          refine wseq ?_
          refine wregion ?_
          refine lv (v := (.bool (decide ((k_69 : Int) < (e_62.length : Int))))) rfl rfl (r_lss (k_69 : Int) (e_62.length : Int) rfl rfl) ?_
          refine lnil ?_
          refine wseq ?_
          refine wcondT (congrArg Value.bool hkb) ?_
          refine wskip ?_
          refine wseq ?_
          refine Wp.cut (fun f w_83 => ∃ (col_84 : Col) (a_86 : Option Addr) (cap_87 : Nat) (left_85 : List Int) (a_90 : Option Addr) (cap_91 : Nat) (ready_89 : List Int), m_dag_sorted_J1 (m_dag_sorted_L3 N out_37 (m_dag_sorted_L2 N p1_down n_26) r_41 l_82) left_85 ready_89 = some r ∧ St w0 (col0 col) col_84 w_83 ∧ Sl (Rep.slice (Rep.int .i64)) col_84 w_83 a1 cap1 p1_down ∧ Sl (Rep.int .i64) col_84 w_83 a_66 cap_67 e_62 ∧ Own (Rep.int .i64) 3 1 col_84 w_83 a_86 cap_87 left_85 ∧ Own (Rep.int .i64) 3 3 col_84 w_83 a_90 cap_91 ready_89 ∧ Box 57 2 col_84 w_83 g_7 #[(.slice a_90 ready_89.length cap_91)] ∧ Own (Rep.int .i64) 3 4 col_84 w_83 a_56 cap_57 (out_37 ++ [r_41.1]) ∧ f 1 = (.slice a1 p1_down.length cap1) ∧ f 45 = (.slice a_66 e_62.length cap_67) ∧ f 46 = (.int .i64 (e_62.length : Int)) ∧ f 47 = (.int .i64 (k_69 : Int)) ∧ f 5 = (.slice a_86 left_85.length cap_87) ∧ f 6 = (.pointer (some ⟨g_7, 0, none⟩)) ∧ f 9 = (.slice a_56 ((out_37 ++ [r_41.1]).length) cap_57) ∧ f 1000000 = (enc [])) ?_ ?_
          · intro f w_83 hJ
            obtain ⟨col_84, a_86, cap_87, left_85, a_90, cap_91, ready_89, hm, hst, h1, h_68, h_88, h_92, ohb_46, h_61, hs1, hs45, hs46, hs47, hs5, hs6, hs9, hs1000000⟩ := hJ
            rw [m_dag_sorted_J1.eq_1] at hm
            refine .ld (d := 1) (v := (.slice a1 p1_down.length cap1)) hs1 ?_
            refine .ld (d := 45) (v := (.slice a_66 e_62.length cap_67)) hs45 ?_
            refine .ld (d := 46) (v := (.int .i64 (e_62.length : Int))) hs46 ?_
            refine .ld (d := 47) (v := (.int .i64 (k_69 : Int))) hs47 ?_
            refine .ld (d := 5) (v := (.slice a_86 left_85.length cap_87)) hs5 ?_
            refine .ld (d := 6) (v := (.pointer (some ⟨g_7, 0, none⟩))) hs6 ?_
            refine .ld (d := 9) (v := (.slice a_56 ((out_37 ++ [r_41.1]).length) cap_57)) hs9 ?_
            refine .ld (d := 1000000) (v := (enc [])) hs1000000 ?_
            clear hs1 hs45 hs46 hs47 hs5 hs6 hs9 hs1000000
            refine wregion ?_
            refine lv (v := (.int .i64 (IntKind.i64.wrap ((k_69 : Int) + 1)))) rfl rfl (r_add (k_69 : Int) 1 rfl rfl) ?_
            refine lv (v := (.int .i64 (IntKind.i64.wrap ((k_69 : Int) + 1)))) rfl rfl (r_move rfl) ?_
            refine lnil ?_
            exact ⟨l_82.length, by simp, ⟨col_84, (k_69 + 1), a_86, cap_87, left_85, a_90, cap_91, ready_89, l_82, rfl, hl2, hm, hst, h1, h_68, h_88, h_92, ohb_46, h_61, (congrArg (Value.int .i64) (wrap_succ (Nat.lt_of_lt_of_le hlt h_68.1.1))), rfl, rfl, rfl, rfl, rfl, rfl, rfl⟩⟩
          · refine wblock ?_
            refine wseq ?_
            refine wregion ?_
            refine lv (v := (sptr a_66 (Int.toNat (k_69 : Int) * 1))) rfl rfl (r_idx Try.underlying31 Try.sizeOf3 rfl rfl (at?_some hat).1 (at?_some hat).2.1 (h_68.addr hat)) ?_
            refine lv (v := (.int .i64 x_81)) rfl rfl (r_ld Try.isAgg3 rfl (h_68.atInt hat)) ?_
            refine lv (v := (.int .i64 x_81)) rfl rfl (r_assign rfl) ?_
            refine lnil ?_
            refine wseq ?_
            refine wregion ?_
            refine lv (v := (.slice a_74 left_73.length cap_75)) rfl rfl (r_move rfl) ?_
            refine lv (v := (.int .i64 x_81)) rfl rfl (r_move rfl) ?_
            obtain ⟨e_93, hj_94, hm⟩ := bind_some hm
            refine lv (v := (sptr a_74 (Int.toNat x_81 * 1))) rfl rfl (r_idx Try.underlying31 Try.sizeOf3 rfl rfl (at?_some hj_94).1 (at?_some hj_94).2.1 (h_76.addr hj_94)) ?_
            refine lv (v := (.int .i64 e_93)) rfl rfl (r_ld Try.isAgg3 rfl (h_76.atInt hj_94)) ?_
            refine lv (v := (.int .i64 (IntKind.i64.wrap (e_93 - 1)))) rfl rfl (r_sub e_93 1 rfl rfl) ?_
            refine lv (v := (sptr a_74 (Int.toNat x_81 * 1))) rfl rfl (r_idx Try.underlying31 Try.sizeOf3 rfl rfl (at?_some hj_94).1 (at?_some hj_94).2.1 (h_76.addr hj_94)) ?_
            obtain ⟨xs_100, hz_99, hm⟩ := bind_some hm
            have hz_99 : xs_100 = left_73.set (Int.toNat x_81) (IntKind.i64.wrap (e_93 - 1)) := (Option.some.inj hz_99).symm
            refine l_store (x1 := IntKind.i64.wrap (e_93 - 1)) (v := (.int .i64 (IntKind.i64.wrap (e_93 - 1)))) h_76 hj_94 rfl Try.sizeOf3 (rd_int .i64 (IntKind.i64.wrap (e_93 - 1))) rfl rfl (by decide) ?_
            intro w_95 hk_96 hs_97 h_98
            rw [← hz_99] at h_98
            replace h1 := h1.kp hk_96 (by decide)
            replace h_68 := h_68.kp hk_96 (by decide)
            replace h_80 := h_80.kp hk_96 (by decide) (by decide)
            replace h_61 := h_61.kp hk_96 (by decide) (by decide)
            replace ohb_46 := ohb_46.kp hk_96 (by decide)
            replace hst := hst.kp hk_96 hs_97 (by decide) (by decide)
            refine .ld (d := 5) (v := (.slice a_74 xs_100.length cap_75)) (congrArg (fun n => Value.slice a_74 n cap_75) (show left_73.length = xs_100.length by rw [hz_99, List.length_set])) ?_
            clear h_76
            refine lnil ?_
            refine wseq ?_
            refine wregion ?_
            refine lv (v := (.slice a_74 xs_100.length cap_75)) rfl rfl (r_move rfl) ?_
            refine lv (v := (.int .i64 x_81)) rfl rfl (r_move rfl) ?_
            obtain ⟨e_101, hj_102, hm⟩ := bind_some hm
            refine lv (v := (sptr a_74 (Int.toNat x_81 * 1))) rfl rfl (r_idx Try.underlying31 Try.sizeOf3 rfl rfl (at?_some hj_102).1 (at?_some hj_102).2.1 (h_98.addr hj_102)) ?_
            refine lv (v := (.int .i64 e_101)) rfl rfl (r_ld Try.isAgg3 rfl (h_98.atInt hj_102)) ?_
            refine lv (v := (.bool (decide (e_101 = 0)))) rfl rfl (r_eql e_101 0 rfl rfl) ?_
            refine lnil ?_
            refine wcond (decide (e_101 = 0)) rfl (fun hb => ?_) (fun hb => ?_)
            · rw [if_pos hb] at hm
              clear hb
              refine wregion ?_
              refine lv (v := (.int .i64 x_81)) rfl rfl (r_move rfl) ?_
              obtain ⟨r_103, hr_104, hm⟩ := bind_some hm
              refine lc rfl rfl (r_call2 Try.call39 rfl rfl) (c_dag_heap_push N col_72 _ 2 3 rfl g_7 ready_77 a_78 cap_79 x_81 h_80 ohb_46 r_103 hr_104) ?_
              rintro _ w_109 ⟨col_111, oa_105, oc_106, rfl, hg_110, oh_107, ohb_108⟩
              refine ⟨_, rfl, ?_⟩
              replace h1 := h1.kpp hg_110 rfl
              replace h_68 := h_68.kpp hg_110 rfl
              replace h_98 := h_98.kpp hg_110 rfl rfl
              replace h_61 := h_61.kpp hg_110 rfl rfl
              replace hst := hst.kpp hg_110 rfl rfl
              clear h_80
              clear ohb_46
              refine lnil ?_
              exact ⟨col_111, a_74, cap_75, xs_100, oa_105, oc_106, r_103, hm, hst, h1, h_68, h_98, oh_107, ohb_108, h_61, rfl, rfl, rfl, rfl, rfl, rfl, rfl, rfl⟩
            · rw [if_neg (by rw [hb]; decide)] at hm
              clear hb
              refine wskip ?_
              exact ⟨col_72, a_74, cap_75, xs_100, a_78, cap_79, ready_77, hm, hst, h1, h_68, h_98, h_80, ohb_46, h_61, rfl, rfl, rfl, rfl, rfl, rfl, rfl, rfl⟩
      · rw [if_neg (by rw [hb]; decide)] at hm
        clear hb
        refine wexit (inB_hit ?_)
        refine wseq ?_
        refine wregion ?_
        refine lv (v := (.slice a_38 out_37.length cap_39)) rfl rfl (r_move rfl) ?_
        refine lv (v := (.slice a_38 out_37.length cap_39)) rfl rfl (r_assign rfl) ?_
        refine lnil ?_
        refine wret ?_
        cases hm
        exact ⟨rfl, colF w0.heap.size col col_28 (fun n => bif Nat.beq n 4 then c1 else 0), a_38, cap_39, rfl, hst.fin (fun n => bif Nat.beq n 4 then c1 else 0), hst.finOwn (g := (fun n => bif Nat.beq n 4 then c1 else 0)) rfl h_40 (by decide) (by decide) rfl⟩
  | cons x_24 l_25 =>
    obtain ⟨hat, hl2, hlt⟩ := drop_get hl
    have hk : (k_12 : Int) < (p0_parents.length : Int) := by omega
    have hkb := decide_eq_true hk
    rw [m_dag_sorted_L1.eq_2] at hm
    refine wseq ?_
    refine wregion ?_
    refine lv (v := (.bool (decide ((k_12 : Int) < (p0_parents.length : Int))))) rfl rfl (r_lss (k_12 : Int) (p0_parents.length : Int) rfl rfl) ?_
    refine lnil ?_
    refine wseq ?_
    refine wcondT (congrArg Value.bool hkb) ?_
    refine wskip ?_
    refine wseq ?_
    refine Wp.cut (fun f w_112 => ∃ (col_113 : Col) (a_115 : Option Addr) (cap_116 : Nat) (left_114 : List Int) (a_119 : Option Addr) (cap_120 : Nat) (ready_118 : List Int), m_dag_sorted_J2 k_12 (m_dag_sorted_L1 N p1_down l_25) left_114 ready_118 = some r ∧ St w0 (col0 col) col_113 w_112 ∧ Sl (Rep.slice (Rep.int .i64)) col_113 w_112 a1 cap1 p1_down ∧ Sl (Rep.slice (Rep.int .i64)) col_113 w_112 a0 cap0 p0_parents ∧ Own (Rep.int .i64) 3 1 col_113 w_112 a_115 cap_116 left_114 ∧ Own (Rep.int .i64) 3 3 col_113 w_112 a_119 cap_120 ready_118 ∧ Box 57 2 col_113 w_112 g_7 #[(.slice a_119 ready_118.length cap_120)] ∧ f 1 = (.slice a1 p1_down.length cap1) ∧ f 16 = (.slice a0 p0_parents.length cap0) ∧ f 17 = (.int .i64 (p0_parents.length : Int)) ∧ f 18 = (.int .i64 (k_12 : Int)) ∧ f 5 = (.slice a_115 left_114.length cap_116) ∧ f 6 = (.pointer (some ⟨g_7, 0, none⟩)) ∧ f 1000000 = (enc [])) ?_ ?_
    · intro f w_112 hJ
      obtain ⟨col_113, a_115, cap_116, left_114, a_119, cap_120, ready_118, hm, hst, h1, h0, h_117, h_121, hb_11, hs1, hs16, hs17, hs18, hs5, hs6, hs1000000⟩ := hJ
      rw [m_dag_sorted_J2.eq_1] at hm
      refine .ld (d := 1) (v := (.slice a1 p1_down.length cap1)) hs1 ?_
      refine .ld (d := 16) (v := (.slice a0 p0_parents.length cap0)) hs16 ?_
      refine .ld (d := 17) (v := (.int .i64 (p0_parents.length : Int))) hs17 ?_
      refine .ld (d := 18) (v := (.int .i64 (k_12 : Int))) hs18 ?_
      refine .ld (d := 5) (v := (.slice a_115 left_114.length cap_116)) hs5 ?_
      refine .ld (d := 6) (v := (.pointer (some ⟨g_7, 0, none⟩))) hs6 ?_
      refine .ld (d := 1000000) (v := (enc [])) hs1000000 ?_
      clear hs1 hs16 hs17 hs18 hs5 hs6 hs1000000
      refine wregion ?_
      refine lv (v := (.int .i64 (IntKind.i64.wrap ((k_12 : Int) + 1)))) rfl rfl (r_add (k_12 : Int) 1 rfl rfl) ?_
      refine lv (v := (.int .i64 (IntKind.i64.wrap ((k_12 : Int) + 1)))) rfl rfl (r_move rfl) ?_
      refine lnil ?_
      exact ⟨l_25.length, by simp, ⟨col_113, (k_12 + 1), a_115, cap_116, left_114, a_119, cap_120, ready_118, l_25, rfl, hl2, hm, hst, h1, h0, h_117, h_121, hb_11, (congrArg (Value.int .i64) (wrap_succ (Nat.lt_of_lt_of_le hlt h0.1.1))), rfl, rfl, rfl, rfl, rfl, rfl⟩⟩
    · refine wblock ?_
      refine wseq ?_
      refine wregion ?_
      refine lv (v := (.int .i64 (k_12 : Int))) rfl rfl (r_move rfl) ?_
      refine lv (v := (sptr a0 (Int.toNat (k_12 : Int) * 1))) rfl rfl (r_idx Try.underlying22 Try.sizeOf31 rfl rfl (at?_some hat).1 (at?_some hat).2.1 (h0.addr hat)) ?_
      obtain ⟨_, hr_122, hA_123⟩ := h0.atN hat
      obtain ⟨⟨a_124, cap_125, rfl, h_126⟩, _⟩ := hr_122
      refine lv (v := (.slice a_124 x_24.length cap_125)) rfl rfl (r_ld Try.isAgg31 rfl hA_123.one) ?_
      refine lv (v := (.int .i64 (k_12 : Int))) rfl rfl (r_assign rfl) ?_
      refine lv (v := (.slice a_124 x_24.length cap_125)) rfl rfl (r_assign rfl) ?_
      refine lnil ?_
      refine wseq ?_
      refine wregion ?_
      refine lv (v := (.slice a_17 left_16.length cap_18)) rfl rfl (r_move rfl) ?_
      refine lv (v := (.int .i64 (k_12 : Int))) rfl rfl (r_move rfl) ?_
      refine lv (v := (.slice a_124 x_24.length cap_125)) rfl rfl (r_move rfl) ?_
      refine lv (v := (.int .i64 (x_24.length : Int))) rfl rfl (r_len Try.underlying31 rfl) ?_
      obtain ⟨e_127, hj_128, hm⟩ := bind_some hm
      refine lv (v := (sptr a_17 (Int.toNat (k_12 : Int) * 1))) rfl rfl (r_idx Try.underlying31 Try.sizeOf3 rfl rfl (at?_some hj_128).1 (at?_some hj_128).2.1 (h_19.addr hj_128)) ?_
      obtain ⟨xs_134, hz_133, hm⟩ := bind_some hm
      have hz_133 : xs_134 = left_16.set (Int.toNat (k_12 : Int)) (x_24.length : Int) := (Option.some.inj hz_133).symm
      refine l_store (x1 := (x_24.length : Int)) (v := (.int .i64 (x_24.length : Int))) h_19 hj_128 rfl Try.sizeOf3 (rd_int .i64 (x_24.length : Int)) rfl rfl (by decide) ?_
      intro w_129 hk_130 hs_131 h_132
      rw [← hz_133] at h_132
      replace h1 := h1.kp hk_130 (by decide)
      replace h0 := h0.kp hk_130 (by decide)
      replace h_23 := h_23.kp hk_130 (by decide) (by decide)
      replace h_126 := h_126.kp hk_130 (by decide)
      replace hb_11 := hb_11.kp hk_130 (by decide)
      replace hst := hst.kp hk_130 hs_131 (by decide) (by decide)
      refine .ld (d := 5) (v := (.slice a_17 xs_134.length cap_18)) (congrArg (fun n => Value.slice a_17 n cap_18) (show left_16.length = xs_134.length by rw [hz_133, List.length_set])) ?_
      clear h_19
      refine lnil ?_
      refine wseq ?_
      refine wregion ?_
      refine lv (v := (.slice a_124 x_24.length cap_125)) rfl rfl (r_move rfl) ?_
      refine lv (v := (.int .i64 (x_24.length : Int))) rfl rfl (r_len Try.underlying31 rfl) ?_
      refine lv (v := (.bool (decide ((x_24.length : Int) = 0)))) rfl rfl (r_eql (x_24.length : Int) 0 rfl rfl) ?_
      refine lnil ?_
      refine wcond (decide ((x_24.length : Int) = 0)) rfl (fun hb => ?_) (fun hb => ?_)
      · rw [if_pos hb] at hm
        clear hb
        refine wregion ?_
        refine lv (v := (.int .i64 (k_12 : Int))) rfl rfl (r_move rfl) ?_
        obtain ⟨r_135, hr_136, hm⟩ := bind_some hm
        refine lc rfl rfl (r_call2 Try.call39 rfl rfl) (c_dag_heap_push N col_15 _ 2 3 rfl g_7 ready_20 a_21 cap_22 (k_12 : Int) h_23 hb_11 r_135 hr_136) ?_
        rintro _ w_141 ⟨col_143, oa_137, oc_138, rfl, hg_142, oh_139, ohb_140⟩
        refine ⟨_, rfl, ?_⟩
        replace h1 := h1.kpp hg_142 rfl
        replace h0 := h0.kpp hg_142 rfl
        replace h_132 := h_132.kpp hg_142 rfl rfl
        replace hst := hst.kpp hg_142 rfl rfl
        clear h_23
        clear hb_11
        refine lnil ?_
        exact ⟨col_143, a_17, cap_18, xs_134, oa_137, oc_138, r_135, hm, hst, h1, h0, h_132, oh_139, ohb_140, rfl, rfl, rfl, rfl, rfl, rfl, rfl⟩
      · rw [if_neg (by rw [hb]; decide)] at hm
        clear hb
        refine wskip ?_
        exact ⟨col_15, a_17, cap_18, xs_134, a_21, cap_22, ready_20, hm, hst, h1, h0, h_132, h_23, hb_11, rfl, rfl, rfl, rfl, rfl, rfl, rfl⟩




def m_dag_Order (N : Nat) (p0_parents : (List (List Int))) : Option ((List Int) × Int) :=
  (m_dag_fits p0_parents).bind fun r_1 => if (!decide (r_1 = 0)) = true then (some (([] : List Int), r_1)) else ((m_dag_children p0_parents).bind fun r_5 => (m_dag_sorted N p0_parents r_5).bind fun r_13 => if (decide ((r_13.length : Int) < (p0_parents.length : Int))) = true then (some (([] : List Int), 42)) else (some (r_13, 0)))

set_option maxRecDepth 100000 in
theorem c_dag_Order (N : Nat) (c1 : Nat) (col : Col) (w0 : World) (a0 : Option Addr) (cap0 : Nat) (p0_parents : (List (List Int))) (h0 : Sl (Rep.slice (Rep.int .i64)) col w0 a0 cap0 p0_parents) (r : ((List Int) × Int)) (hm : m_dag_Order N p0_parents = some r) :
    Calls Try.prog 16 #[(.slice a0 p0_parents.length cap0)] w0 (fun e w' => ∃ (col' : Col) (ra1 : Option Addr) (rc2 : Nat), e = .returned (.tuple #[(.slice ra1 r.1.length rc2), (.int .i64 r.2)]) ∧ Grow col w0 col' w' ∧ Own (Rep.int .i64) 3 c1 col' w' ra1 rc2 r.1) := by
  refine calls_of2 2 3 (m := 21) (args := [(.slice a0 p0_parents.length cap0)]) Try.func16 rfl rfl rfl rfl rfl ?_
  rw [m_dag_Order.eq_1] at hm
  have hst := St.start col w0
  replace h0 := h0.keep (Stay.start col w0)
  refine wseq ?_
  refine wregion ?_
  refine lv (v := (.slice none (([] : List Int).length) 0)) rfl rfl (r_assign rfl) ?_
  refine lv (v := (.int .i64 0)) rfl rfl (r_assign rfl) ?_
  refine lnil ?_
  refine wseq ?_
  refine wseq ?_
  refine wregion ?_
  refine lv (v := (.slice a0 p0_parents.length cap0)) rfl rfl (r_move rfl) ?_
  obtain ⟨r_1, hr_2, hm⟩ := bind_some hm
  refine lc rfl rfl (r_call1 Try.call27 rfl) (c_dag_fits (col0 col) _ a0 cap0 p0_parents h0 r_1 hr_2) ?_
  rintro _ w_3 ⟨rfl, hg_4⟩
  refine ⟨_, rfl, ?_⟩
  replace hg_4 : Grow (col0 col) w0 (col0 col) w_3 := .of_below hg_4
  replace h0 := h0.gr hg_4
  replace hst := hst.grow hg_4
  refine lv (v := (.int .i64 r_1)) rfl rfl (r_assign rfl) ?_
  refine lnil ?_
  refine wseq ?_
  refine wregion ?_
  refine lv (v := (.int .i64 r_1)) rfl rfl (r_move rfl) ?_
  refine lv (v := (.bool (!decide (r_1 = 0)))) rfl rfl (r_neq r_1 0 rfl rfl) ?_
  refine lnil ?_
  refine wcond (!decide (r_1 = 0)) rfl (fun hb => ?_) (fun hb => ?_)
  · rw [if_pos hb] at hm
    clear hb
    refine wseq ?_
    refine wregion ?_
    refine lv (v := (.int .i64 r_1)) rfl rfl (r_move rfl) ?_
    refine lv (v := (.slice none (([] : List Int).length) 0)) rfl rfl (r_assign rfl) ?_
    refine lv (v := (.int .i64 r_1)) rfl rfl (r_assign rfl) ?_
    refine lnil ?_
    refine wret ?_
    cases hm
    exact ⟨rfl, colF w0.heap.size col (col0 col) (fun n => 0), none, 0, rfl, hst.fin (fun n => 0), Own.nil⟩
  · rw [if_neg (by rw [hb]; decide)] at hm
    clear hb
    refine wskip ?_
    refine wseq ?_
    refine wregion ?_
    refine lv (v := (.slice a0 p0_parents.length cap0)) rfl rfl (r_move rfl) ?_
    refine lv (v := (.slice a0 p0_parents.length cap0)) rfl rfl (r_move rfl) ?_
    obtain ⟨r_5, hr_6, hm⟩ := bind_some hm
    refine lc rfl rfl (r_call1 Try.call29 rfl) (c_dag_children 1 (col0 col) _ a0 cap0 p0_parents h0 r_5 hr_6) ?_
    rintro _ w_10 ⟨col_12, ra_7, rc_8, rfl, hg_11, rh_9⟩
    refine ⟨_, rfl, ?_⟩
    replace h0 := h0.gr hg_11
    replace hst := hst.grow hg_11
    obtain ⟨r_13, hr_14, hm⟩ := bind_some hm
    refine lc rfl rfl (r_call2 Try.call28 rfl rfl) (c_dag_sorted N 2 (frC 1 col_12) _ a0 cap0 p0_parents ra_7 rc_8 r_5 (h0.froz 1) (rh_9.toSlF (Froz.row (Froz.int .i64))) r_13 hr_14) ?_
    rintro _ w_18 ⟨col_20, ra_15, rc_16, rfl, hg_19, rh_17⟩
    refine ⟨_, rfl, ?_⟩
    replace rh_17 := rh_17.thaw (flat_int .i64) hg_19 ((Fz.refl (col := col_12)).froz 1) (by decide)
    replace hg_19 := hg_19.thawR (col := col_12)
    generalize colR w_10.heap.size col_12 col_20 = col_21 at *
    replace h0 := h0.gr hg_19
    replace rh_9 := rh_9.gr hg_19
    replace hst := hst.grow hg_19
    refine lv (v := (.slice ra_15 r_13.length rc_16)) rfl rfl (r_assign rfl) ?_
    refine lnil ?_
    refine wseq ?_
    refine wseq ?_
    refine wregion ?_
    refine lv (v := (.slice ra_15 r_13.length rc_16)) rfl rfl (r_move rfl) ?_
    refine lv (v := (.int .i64 (r_13.length : Int))) rfl rfl (r_len Try.underlying31 rfl) ?_
    refine lv (v := (.slice a0 p0_parents.length cap0)) rfl rfl (r_move rfl) ?_
    refine lv (v := (.int .i64 (p0_parents.length : Int))) rfl rfl (r_len Try.underlying22 rfl) ?_
    refine lv (v := (.bool (decide ((r_13.length : Int) < (p0_parents.length : Int))))) rfl rfl (r_lss (r_13.length : Int) (p0_parents.length : Int) rfl rfl) ?_
    refine lnil ?_
    refine wcond (decide ((r_13.length : Int) < (p0_parents.length : Int))) rfl (fun hb => ?_) (fun hb => ?_)
    · rw [if_pos hb] at hm
      clear hb
      refine wseq ?_
      refine wregion ?_
      refine lv (v := (.slice none (([] : List Int).length) 0)) rfl rfl (r_assign rfl) ?_
      refine lv (v := (.int .i64 42)) rfl rfl (r_assign rfl) ?_
      refine lnil ?_
      refine wret ?_
      cases hm
      exact ⟨rfl, colF w0.heap.size col col_21 (fun n => 0), none, 0, rfl, hst.fin (fun n => 0), Own.nil⟩
    · rw [if_neg (by rw [hb]; decide)] at hm
      clear hb
      refine wskip ?_
      refine wseq ?_
      refine wregion ?_
      refine lv (v := (.slice ra_15 r_13.length rc_16)) rfl rfl (r_move rfl) ?_
      refine lv (v := (.slice ra_15 r_13.length rc_16)) rfl rfl (r_assign rfl) ?_
      refine lv (v := (.int .i64 0)) rfl rfl (r_assign rfl) ?_
      refine lnil ?_
      refine wret ?_
      cases hm
      exact ⟨rfl, colF w0.heap.size col col_21 (fun n => bif Nat.beq n 2 then c1 else 0), ra_15, rc_16, rfl, hst.fin (fun n => bif Nat.beq n 2 then c1 else 0), hst.finOwn (g := (fun n => bif Nat.beq n 2 then c1 else 0)) rfl rh_17 (by decide) (by decide) rfl⟩




def m_dag_Check (N : Nat) (p0_parents : (List (List Int))) : Option Int :=
  (m_dag_Order N p0_parents).bind fun r_1 => some r_1.2

set_option maxRecDepth 100000 in
theorem c_dag_Check (N : Nat) (col : Col) (w0 : World) (a0 : Option Addr) (cap0 : Nat) (p0_parents : (List (List Int))) (h0 : Sl (Rep.slice (Rep.int .i64)) col w0 a0 cap0 p0_parents) (r : Int) (hm : m_dag_Check N p0_parents = some r) :
    Calls Try.prog 18 #[(.slice a0 p0_parents.length cap0)] w0 (fun e w' => e = .returned ((.int .i64 r)) ∧ Below w0.heap.size w0 w') := by
  refine calls_of1 2 (m := 11) (args := [(.slice a0 p0_parents.length cap0)]) Try.func18 rfl rfl rfl rfl rfl ?_
  rw [m_dag_Check.eq_1] at hm
  have hst := St.start col w0
  replace h0 := h0.keep (Stay.start col w0)
  refine wseq ?_
  refine wregion ?_
  refine lv (v := (.int .i64 0)) rfl rfl (r_assign rfl) ?_
  refine lnil ?_
  refine wseq ?_
  refine wregion ?_
  refine lv (v := (.slice a0 p0_parents.length cap0)) rfl rfl (r_move rfl) ?_
  obtain ⟨r_1, hr_2, hm⟩ := bind_some hm
  refine lc rfl rfl (r_call1 Try.call16 rfl) (c_dag_Order N 1 (col0 col) _ a0 cap0 p0_parents h0 r_1 hr_2) ?_
  rintro _ w_6 ⟨col_8, ra_3, rc_4, rfl, hg_7, rh_5⟩
  refine ⟨_, rfl, ?_⟩
  replace h0 := h0.gr hg_7
  replace hst := hst.grow hg_7
  refine lv (v := (.tuple #[(.slice ra_3 r_1.1.length rc_4), (.int .i64 r_1.2)])) rfl rfl (r_move rfl) ?_
  refine lv (v := (.slice ra_3 r_1.1.length rc_4)) rfl rfl (r_extract rfl rfl) ?_
  refine lv (v := (.int .i64 r_1.2)) rfl rfl (r_extract rfl rfl) ?_
  refine lv (v := (.slice ra_3 r_1.1.length rc_4)) rfl rfl (r_assign rfl) ?_
  refine lv (v := (.int .i64 r_1.2)) rfl rfl (r_assign rfl) ?_
  refine lnil ?_
  refine wseq ?_
  refine wregion ?_
  refine lv (v := (.int .i64 r_1.2)) rfl rfl (r_move rfl) ?_
  refine lv (v := (.int .i64 r_1.2)) rfl rfl (r_assign rfl) ?_
  refine lnil ?_
  refine wret ?_
  cases hm
  exact ⟨rfl, rfl, hst.below⟩



end Go.Proofs.Ytgggjmmljagkmaa
