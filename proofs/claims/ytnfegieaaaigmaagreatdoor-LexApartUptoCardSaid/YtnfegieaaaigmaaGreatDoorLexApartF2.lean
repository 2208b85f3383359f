/-
  What functions of the program compute, as plain Lean functions (m_..), and proofs that they compute it (c_..). Printed by a program of the author; no conditions.
-/
import Derived.Test.YtnfegieaaaigmaaGreatDoorLexApartBFloat
import Derived.Test.YtnfegieaaaigmaaGreatDoorProg
import Derived.Test.YtnfegieaaaigmaaGreatDoorLexApartBBrief
import Derived.Test.YtnfegieaaaigmaaGreatDoorLexApartBErr
import Derived.Test.YtnfegieaaaigmaaGreatDoorLexApartF1
set_option linter.unusedVariables false
set_option linter.unusedSectionVars false
set_option maxRecDepth 100000
set_option maxHeartbeats 2000000
namespace Go.Proofs.YtnfegieaaaigmaaGreatDoor
open Go Go.RowKit

theorem qtS_len : ∀ (xs : List Int) (p : Nat × List Int), qtS xs = some p → p.2.length ≤ p.1
 | [], p, h => by rw [qtS] at h; cases h
 | c :: [], p, h => by
  rw [qtS_cons] at h
  split at h
  ·cases h; simp
  ·split at h
   ·cases h
   ·split at h
    ·cases h
    ·rw [qtS] at h; cases h
 | c :: d :: r, p, h => by
  rw [qtS_cons] at h
  split at h
  ·cases h; simp
  ·split at h
   ·cases h
   ·split at h
    ·dsimp only at h
     split at h
     ·obtain ⟨q, hq, rfl⟩ := Option.map_eq_some_iff.1 h
      have := qtS_len r q hq
      simp only [List.length_cons]; omega
     ·cases h
    ·obtain ⟨q, hq, rfl⟩ := Option.map_eq_some_iff.1 h
     have := qtS_len (d :: r) q hq
     simp only [List.length_cons]; omega
theorem tokS_txt {s : ByteArray} (hc : (tokS s).2.2.1 = 0) : (tokS s).2.1.2.size ≤ (tokS s).1 := by
 rw [tokS] at hc ⊢
 have hx : ∀ n, (s.extract 0 n).size ≤ n := fun n => by rw [ByteArray.size_extract]; omega
 split at hc
 ·rename_i c1
  rw [if_pos c1]
  split at hc
  ·exact absurd hc (by show ¬ (20 : Int) = 0; decide)
  ·rename_i c2
   rw [if_neg c2]; exact hx _
 ·rename_i c1
  rw [if_neg c1]
  split at hc
  ·rename_i c2
   rw [if_pos c2]
   split at hc
   ·exact absurd hc (by show ¬ (22 : Int) = 0; decide)
   ·rename_i c3
    rw [if_neg c3]; exact hx _
  ·rename_i c2
   rw [if_neg c2]
   split at hc
   ·rename_i c3
    rw [if_pos c3]
    cases hq : qtS ((sints s).drop 1) with
    | none => rw [hq] at hc; exact absurd hc (by show ¬ (21 : Int) = 0; decide)
    | some p =>
     obtain ⟨r1, r2, r3, r4⟩ := qtS_rng _ p (fun x hx => sints_rng (List.mem_of_mem_drop hx)) hq
     have h1 := qtS_len _ p hq
     show (bstr p.2).size ≤ 1 + p.1
     rw [← sints_len, sints_bstr r1]; omega
   ·rename_i c3
    rw [if_neg c3]
    split at hc
    ·rename_i c4
     rw [if_pos c4]; exact hx _
    ·exact absurd hc (by show ¬ (20 : Int) = 0; decide)
theorem blk_not {b : Int} (h : blkB b = true) : letB b = false ∧ digB b = false ∧ wrdB b = false ∧ b ≠ 46 ∧ b ≠ 101 ∧ b ≠ 69 ∧ b ≠ 47 ∧ b ≠ 42 := by
 have := of_decide_eq_true h
 simp only [List.mem_cons, List.not_mem_nil, or_false] at this
 rcases this with rfl | rfl | rfl | rfl <;> decide
section
variable {t : ByteArray} {a' : Nat} {p' : Int × Int} {ok : Bool}
theorem bl_skip (g r : List Int) {a : Nat} {p : Int × Int} (hg : g ≠ []) (h : (sints t).drop a = g ++ r) (hk : skS (g ++ r) = some g.length) (hr : BlR t (a + g.length) (plc g p) ok a' p') : BlR t a p ok a' p' := by
 have hl := congrArg List.length h
 rw [List.length_drop, sints_len, List.length_append] at hl
 have hp : 0 < g.length := List.length_pos_iff.2 hg
 refine .skip (k := g.length) (by omega) (by rw [h]; exact hk) hp (by omega) ?_
 rw [h, List.take_left]; exact hr
theorem bl_one (b : Int) (r : List Int) {a : Nat} {p : Int × Int} (hb : blkB b = true) (h : (sints t).drop a = b :: r) (hr : BlR t (a + 1) (plc [b] p) ok a' p') : BlR t a p ok a' p' := by
 refine bl_skip [b] r (by simp) h ?_ hr
 obtain ⟨_, _, _, _, _, _, b7, _⟩ := blk_not hb
 rw [skS, if_neg (fun e => b7 (Option.some.inj e.1)), if_neg (fun e => b7 (Option.some.inj e.1)), if_pos (show blkB (([b] ++ r).headD 0) = true from hb)]; rfl
theorem drop_more {a : Nat} {g r : List Int} (h : (sints t).drop a = g ++ r) : (sints t).drop (a + g.length) = r := by
 rw [← List.drop_drop, h, List.drop_left]
end
/-! ### a word and what stands behind it -/
theorem qtS_take : ∀ (xs : List Int) (p : Nat × List Int), qtS xs = some p → xs.take p.1 = escL p.2 ++ [34] ∧ 10 ∉ p.2
 | [], p, h => by rw [qtS] at h; cases h
 | c :: [], p, h => by
  rw [qtS_cons] at h
  split at h
  ·rename_i c34
   cases h; exact ⟨by rw [c34]; rfl, by simp⟩
  ·split at h
   ·cases h
   ·split at h
    ·cases h
    ·rw [qtS] at h; cases h
 | c :: d :: r, p, h => by
  rw [qtS_cons] at h
  split at h
  ·rename_i c34
   cases h; exact ⟨by rw [c34]; rfl, by simp⟩
  ·rename_i c34
   split at h
   ·cases h
   ·rename_i c10
    split at h
    ·rename_i c92
     dsimp only at h
     split at h
     ·rename_i hd
      obtain ⟨q, hq, rfl⟩ := Option.map_eq_some_iff.1 h
      obtain ⟨i1, i2⟩ := qtS_take r q hq
      refine ⟨?_, ?_⟩
      ·show (c :: d :: r).take (q.1 + 2) = escL (d :: q.2) ++ [34]
       rw [List.take_succ_cons, List.take_succ_cons, i1, escL]
       rcases hd with rfl | rfl
       ·rw [if_neg (by decide), if_pos rfl, c92]; rfl
       ·rw [if_pos rfl, c92]; rfl
      ·show 10 ∉ d :: q.2
       intro e
       rcases List.mem_cons.1 e with e | e
       ·rcases hd with rfl | rfl <;> exact absurd e (by decide)
       ·exact i2 e
     ·cases h
    ·rename_i c92
     obtain ⟨q, hq, rfl⟩ := Option.map_eq_some_iff.1 h
     obtain ⟨i1, i2⟩ := qtS_take (d :: r) q hq
     refine ⟨?_, ?_⟩
     ·show (c :: d :: r).take (q.1 + 1) = escL (c :: q.2) ++ [34]
      rw [List.take_succ_cons, i1, escL, if_neg c92, if_neg c34]; rfl
     ·show 10 ∉ c :: q.2
      intro e
      rcases List.mem_cons.1 e with e | e
      ·exact c10 e.symm
      ·exact i2 e
theorem run_cut (B : Int → Bool) (b : Int) (r : List Int) (hb : B b = false) : ∀ (l : List Int) (m : Nat), m ≤ l.length → runS B (l.take m ++ b :: r) = min (runS B l) m
 | l, 0, h => by rw [List.take_zero, List.nil_append, runS_cons, if_neg (by rw [hb]; decide), Nat.min_zero]
 | [], m + 1, h => by simp at h
 | c :: l, m + 1, h => by
  rw [List.length_cons] at h
  rw [List.take_succ_cons, List.cons_append, runS_cons, runS_cons, run_cut B b r hb l m (by omega)]
  split <;> omega
section
variable {xs : List Int} {n : Nat} (hn : n ≤ xs.length) {b : Int} {r : List Int} (hb : blkB b = true)
include hn hb
theorem cut_get (k : Nat) (hk : k < n) : (xs.take n ++ b :: r)[k]? = xs[k]? := by
 rw [List.getElem?_append_left (by rw [List.length_take]; omega), List.getElem?_take, if_pos hk]
theorem cut_at : (xs.take n ++ b :: r)[n]? = some b := by
 rw [List.getElem?_append_right (by rw [List.length_take]; omega), List.length_take, Nat.min_eq_left hn, Nat.sub_self]; rfl
theorem cut_drop (k : Nat) (hk : k ≤ n) : (xs.take n ++ b :: r).drop k = (xs.drop k).take (n - k) ++ b :: r := by
 rw [List.drop_append_of_le_length (by rw [List.length_take]; omega), List.drop_take]
theorem cut_run (k : Nat) (hk : k ≤ n) : runS digB ((xs.take n ++ b :: r).drop k) = min (runS digB (xs.drop k)) (n - k) := by
 rw [cut_drop hn hb k hk, run_cut digB b r (blk_not hb).2.1 _ _ (by rw [List.length_drop]; omega)]
theorem cut_int (h : intS xs ≤ n) : intS (xs.take n ++ b :: r) = intS xs := by
 have h0 := intS_ge xs
 have e0 : runS digB (xs.take n ++ b :: r) = runS digB xs := by
  have := cut_run hn hb (r := r) 0 (Nat.zero_le _)
  rw [List.drop_zero, List.drop_zero] at this
  rw [this]; omega
 rw [intS, e0]
 by_cases c : xs[runS digB xs]? = some 46 ∧ 0 < runS digB (xs.drop (runS digB xs + 1))
 ·have hi : intS xs = runS digB xs + (1 + runS digB (xs.drop (runS digB xs + 1))) := by rw [intS, if_pos c]
  have e1 := cut_run hn hb (r := r) (runS digB xs + 1) (by omega)
  rw [Nat.min_eq_left (by omega)] at e1
  rw [cut_get hn hb _ (by omega), e1, ← intS]
 ·have hi : intS xs = runS digB xs := by rw [intS, if_neg c]
  rw [if_neg, hi]
  intro c2
  refine c ?_
  rcases Nat.lt_or_ge (runS digB xs) n with hlt | hge
  ·rw [cut_get hn hb _ hlt] at c2
   refine ⟨c2.1, ?_⟩
   have := c2.2
   rw [cut_run hn hb _ (by omega)] at this
   omega
  ·have : runS digB xs = n := by omega
   rw [this, cut_at hn hb] at c2
   exact absurd (Option.some.inj c2.1) (blk_not hb).2.2.2.1
theorem cut_exp {m : Nat} (hm : m ≤ n) (h : (expS xs m).1 = n) : expS (xs.take n ++ b :: r) m = expS xs m := by
 by_cases c : (xs[m]? = some 101 ∨ xs[m]? = some 69) ∧ 0 < runS digB (xs.drop (expK xs m))
 ·have e : expS xs m = (expK xs m + runS digB (xs.drop (expK xs m)), (xs.drop (expK xs m)).takeWhile digB) := by rw [expS, if_pos c]
  rw [e] at h
  have h : expK xs m + runS digB (xs.drop (expK xs m)) = n := h
  have hk := expK_ge xs m
  have g1 := cut_get hn hb (r := r) m (by omega)
  have g2 := cut_get hn hb (r := r) (m + 1) (by omega)
  have ek : expK (xs.take n ++ b :: r) m = expK xs m := by rw [expK, g2]; rfl
  have er : runS digB ((xs.take n ++ b :: r).drop (expK xs m)) = runS digB (xs.drop (expK xs m)) := by
   rw [cut_run hn hb _ (by omega)]; omega
  rw [e, expS, ek, er, g1, if_pos c, ← run_take, er, cut_drop hn hb _ (by omega), List.take_append_of_le_length (by rw [List.length_take, List.length_drop]; omega), List.take_take, Nat.min_eq_left (by omega), run_take]
 ·have e : expS xs m = (m, []) := by rw [expS, if_neg c]
  rw [e] at h
  have h : m = n := h
  subst h
  rw [e, expS, cut_at hn hb, if_neg]
  intro c2
  obtain ⟨_, _, _, _, b1, b2, _⟩ := blk_not hb
  rcases c2.1 with c3 | c3
  ·exact b1 (Option.some.inj c3)
  ·exact b2 (Option.some.inj c3)
end
theorem head_cut {xs : List Int} {n : Nat} (h : 1 ≤ n) (h0 : xs ≠ []) (r : List Int) : (xs.take n ++ r).headD 0 = xs.headD 0 := by
 cases xs with
 | nil => exact absurd rfl h0
 | cons c l =>
  obtain ⟨m, rfl⟩ : ∃ m, n = m + 1 := ⟨n - 1, by omega⟩
  rfl
theorem tokS_cut {s s' : ByteArray} (h0 : 1 ≤ s.size) (hc : (tokS s).2.2.1 = 0) {b : Int} {r : List Int} (hb : blkB b = true) (hs : sints s' = (sints s).take (tokS s).1 ++ b :: r) :
  tokS s' = tokS s ∧ skS (sints s') = some 0 := by
 have hl := sints_len s
 obtain ⟨z1, z2, -⟩ := tokS_le h0 hc
 obtain ⟨b1, b2, b3, b4, b5, b6, b7, b8⟩ := blk_not hb
 have hne : sints s ≠ [] := fun e => by rw [e] at hl; simp at hl; omega
 have hn : (tokS s).1 ≤ (sints s).length := by omega
 have hx : s'.extract 0 (tokS s).1 = s.extract 0 (tokS s).1 := ext_eq (by
  rw [sints_ext0, sints_ext0, hs, List.take_append_of_le_length (by rw [List.length_take]; omega), List.take_take, Nat.min_self])
 have hh : (sints s').headD 0 = (sints s).headD 0 := by rw [hs]; exact head_cut z2 hne _
 have hg0 : (sints s')[0]? = some ((sints s).headD 0) := by
  rw [← hh]
  cases hq : sints s' with
  | nil => rw [hs] at hq; simp at hq
  | cons c l => rfl
 have sk : blkB ((sints s).headD 0) = false → ((sints s).headD 0 = 47 → (tokS s).1 = 1) → skS (sints s') = some 0 := by
  intro k1 k2
  have k3 : ∀ c : Int, (c = 47 ∨ c = 42) → ¬ ((sints s')[0]? = some 47 ∧ (sints s')[1]? = some c) := by
   intro c hcc e
   rw [hg0] at e
   have e1 := k2 (Option.some.inj e.1)
   have e2 := cut_at hn hb (r := r)
   rw [← hs, e1] at e2
   rw [e2] at e
   have e3 := Option.some.inj e.2
   rcases hcc with rfl | rfl
   ·exact b7 e3
   ·exact b8 e3
  rw [skS, if_neg (k3 47 (.inl rfl)), if_neg (k3 42 (.inr rfl)), hh, k1]; rfl
 have nb : ∀ c : Int, (letB c = true ∨ digB c = true ∨ c = 34 ∨ sgnB c = true) → blkB c = false := by
  intro c hcc
  cases hbc : blkB c with
  | false => rfl
  | true =>
   have := of_decide_eq_true hbc
   simp only [List.mem_cons, List.not_mem_nil, or_false] at this
   rcases this with rfl | rfl | rfl | rfl <;> rcases hcc with h | h | h | h <;> exact absurd h (by decide)
 by_cases c1 : letB ((sints s).headD 0) = true
 ·have c1' : letB ((sints s').headD 0) = true := by rw [hh]; exact c1
  have e1 : tokS s = (runS wrdB (sints s), (1, s.extract 0 (runS wrdB (sints s))), (0, ⟨#[]⟩)) := by
   rw [tokS, if_pos c1] at hc ⊢
   split at hc
   ·exact absurd hc (by show ¬ (20 : Int) = 0; decide)
   ·rename_i c2
    rw [if_neg c2]
  have hr : runS wrdB (sints s') = runS wrdB (sints s) := by
   rw [hs, run_cut wrdB b r b3 _ _ hn, e1]; exact Nat.min_self _
  have h64 : ¬ 64 < runS wrdB (sints s) := fun e => by
   rw [tokS, if_pos c1, if_pos e] at hc
   exact absurd hc (by show ¬ (20 : Int) = 0; decide)
  refine ⟨?_, sk (nb _ (.inl c1)) fun e => by rw [e] at c1; exact absurd c1 (by decide)⟩
  rw [e1] at hx
  rw [e1, tokS, if_pos c1', hr, if_neg h64]
  rw [show s'.extract 0 (runS wrdB (sints s)) = s.extract 0 (runS wrdB (sints s)) from hx]
 ·have c1' : ¬ letB ((sints s').headD 0) = true := by rw [hh]; exact c1
  by_cases c2 : digB ((sints s).headD 0) = true
  ·have c2' : digB ((sints s').headD 0) = true := by rw [hh]; exact c2
   have h3 : ¬ (bigS (expS (sints s) (intS (sints s))).2 = true ∨ letB (((sints s)[(expS (sints s) (intS (sints s))).1]?).getD 0) = true) := fun e => by
    rw [tokS, if_neg c1, if_pos c2, if_pos e] at hc
    exact absurd hc (by show ¬ (22 : Int) = 0; decide)
   have e1 : tokS s = ((expS (sints s) (intS (sints s))).1, (2, s.extract 0 (expS (sints s) (intS (sints s))).1), (0, ⟨#[]⟩)) := by
    rw [tokS, if_neg c1, if_pos c2, if_neg h3]
   have en : (tokS s).1 = (expS (sints s) (intS (sints s))).1 := by rw [e1]
   have hle : intS (sints s) ≤ (tokS s).1 := by rw [en]; exact expS_ge _ _
   have q1 : intS (sints s') = intS (sints s) := by rw [hs]; exact cut_int hn hb hle
   have q2 : expS (sints s') (intS (sints s)) = expS (sints s) (intS (sints s)) := by rw [hs]; exact cut_exp hn hb hle en.symm
   have q3 : (sints s')[(expS (sints s) (intS (sints s))).1]? = some b := by rw [hs, ← en]; exact cut_at hn hb
   refine ⟨?_, sk (nb _ (.inr (.inl c2))) fun e => by rw [e] at c2; exact absurd c2 (by decide)⟩
   rw [en] at hx
   rw [e1, tokS, if_neg c1', if_pos c2', q1, q2, q3, if_neg, hx]
   rintro (e | e)
   ·exact h3 (.inl e)
   ·rw [show (some b).getD 0 = b from rfl, b1] at e; cases e
  ·have c2' : ¬ digB ((sints s').headD 0) = true := by rw [hh]; exact c2
   by_cases c3 : (sints s).headD 0 = 34
   ·have c3' : (sints s').headD 0 = 34 := by rw [hh]; exact c3
    cases hq : qtS ((sints s).drop 1) with
    | none =>
     rw [tokS, if_neg c1, if_neg c2, if_pos c3, hq] at hc
     exact absurd hc (by show ¬ (21 : Int) = 0; decide)
    | some p =>
     have e1 : tokS s = (1 + p.1, (3, bstr p.2), (0, ⟨#[]⟩)) := by rw [tokS, if_neg c1, if_neg c2, if_pos c3, hq]
     obtain ⟨t1, t2⟩ := qtS_take _ _ hq
     obtain ⟨r1, r2, r3, r4⟩ := qtS_rng _ p (fun x hx => sints_rng (List.mem_of_mem_drop hx)) hq
     have hcons : sints s = 34 :: (sints s).drop 1 := by
      cases hq2 : sints s with
      | nil => exact absurd hq2 hne
      | cons c l => rw [hq2] at c3; rw [show c = 34 from c3]; rfl
     have hlen : (escL p.2).length + 1 = p.1 := by
      have := congrArg List.length t1
      rw [List.length_take, List.length_append, Nat.min_eq_left r2] at this
      exact this.symm
     have hs2 : sints s' = 34 :: (escL (sints (bstr p.2)) ++ 34 :: (b :: r)) := by
      rw [hs, e1, sints_bstr r1]
      show (sints s).take (1 + p.1) ++ b :: r = _
      rw [hcons, show 1 + p.1 = p.1 + 1 by omega, List.take_succ_cons, t1, List.cons_append, List.append_assoc]; rfl
     refine ⟨?_, sk (nb _ (.inr (.inr (.inl c3)))) fun e => by rw [e] at c3; exact absurd c3 (by decide)⟩
     rw [tokS_quote hs2 (by rw [sints_bstr r1]; exact t2), e1, sints_bstr r1, show (escL p.2).length + 2 = 1 + p.1 by omega]
   ·have c3' : ¬ (sints s').headD 0 = 34 := by rw [hh]; exact c3
    by_cases c4 : sgnB ((sints s).headD 0) = true
    ·have c4' : sgnB ((sints s').headD 0) = true := by rw [hh]; exact c4
     have e1 : tokS s = (1, (4, s.extract 0 1), (0, ⟨#[]⟩)) := by rw [tokS, if_neg c1, if_neg c2, if_neg c3, if_pos c4]
     refine ⟨?_, sk (nb _ (.inr (.inr (.inr c4)))) fun _ => by rw [e1]⟩
     rw [e1] at hx
     rw [e1, tokS, if_neg c1', if_neg c2', if_neg c3', if_pos c4', show s'.extract 0 1 = s.extract 0 1 from hx]
    ·rw [tokS, if_neg c1, if_neg c2, if_neg c3, if_neg c4] at hc
     exact absurd hc (by show ¬ (20 : Int) = 0; decide)
def wrI (x : TokV) : List Int := if x.1 = 3 then 34 :: (escL (sints x.2.1) ++ [34]) else sints x.2.1
theorem wrI_tok {s : ByteArray} (h0 : 1 ≤ s.size) (hc : (tokS s).2.2.1 = 0) (p : Int × Int) : wrI ((tokS s).2.1.1, (tokS s).2.1.2, p.1, p.2) = (sints s).take (tokS s).1 ∧ ((tokS s).2.1.1 = 3 → 10 ∉ sints (tokS s).2.1.2) := by
 have hl := sints_len s
 have hne : sints s ≠ [] := fun e => by rw [e] at hl; simp at hl; omega
 rw [tokS] at hc ⊢
 split at hc
 ·rename_i c1
  rw [if_pos c1]
  split at hc
  ·exact absurd hc (by show ¬ (20 : Int) = 0; decide)
  ·rename_i c2
   rw [if_neg c2]
   exact ⟨by rw [wrI, if_neg (by show ¬ (1 : Int) = 3; decide)]; exact sints_ext0 _ _, fun e => absurd e (by show ¬ (1 : Int) = 3; decide)⟩
 ·rename_i c1
  rw [if_neg c1]
  split at hc
  ·rename_i c2
   rw [if_pos c2]
   split at hc
   ·exact absurd hc (by show ¬ (22 : Int) = 0; decide)
   ·rename_i c3
    rw [if_neg c3]
    exact ⟨by rw [wrI, if_neg (by show ¬ (2 : Int) = 3; decide)]; exact sints_ext0 _ _, fun e => absurd e (by show ¬ (2 : Int) = 3; decide)⟩
  ·rename_i c2
   rw [if_neg c2]
   split at hc
   ·rename_i c3
    rw [if_pos c3]
    cases hq : qtS ((sints s).drop 1) with
    | none => rw [hq] at hc; exact absurd hc (by show ¬ (21 : Int) = 0; decide)
    | some p =>
     obtain ⟨t1, t2⟩ := qtS_take _ _ hq
     obtain ⟨r1, r2, r3, r4⟩ := qtS_rng _ p (fun x hx => sints_rng (List.mem_of_mem_drop hx)) hq
     refine ⟨?_, fun _ => by show 10 ∉ sints (bstr p.2); rw [sints_bstr r1]; exact t2⟩
     rw [wrI, if_pos (by rfl)]
     show 34 :: (escL (sints (bstr p.2)) ++ [34]) = (sints s).take (1 + p.1)
     rw [sints_bstr r1, ← t1]
     cases hq2 : sints s with
     | nil => exact absurd hq2 hne
     | cons c l =>
      rw [hq2] at c3
      rw [show 1 + p.1 = p.1 + 1 by omega, List.take_succ_cons, show c = 34 from c3]; rfl
   ·rename_i c3
    rw [if_neg c3]
    split at hc
    ·rename_i c4
     rw [if_pos c4]
     exact ⟨by rw [wrI, if_neg (by show ¬ (4 : Int) = 3; decide)]; exact sints_ext0 _ _, fun e => absurd e (by show ¬ (4 : Int) = 3; decide)⟩
    ·exact absurd hc (by show ¬ (20 : Int) = 0; decide)
/-! ### what stands between -/
def gapL : List (List Int) := [[32], [10], [9, 13, 32], [32, 47, 42, 32, 97, 32, 34, 32, 98, 32, 42, 47], [10, 47, 47, 32, 120, 10], [9, 47, 42, 42, 42, 47]]
theorem gap_head {g : List Int} (h : g ∈ gapL) : ∃ b r, g = b :: r ∧ blkB b = true := by
 simp only [gapL, List.mem_cons, List.not_mem_nil, or_false] at h
 rcases h with rfl | rfl | rfl | rfl | rfl | rfl <;> exact ⟨_, _, rfl, rfl⟩
theorem gap_len {g : List Int} (h : g ∈ gapL) : g.length ≤ 12 := by
 simp only [gapL, List.mem_cons, List.not_mem_nil, or_false] at h
 rcases h with rfl | rfl | rfl | rfl | rfl | rfl <;> decide
section
variable {t : ByteArray} {a' : Nat} {p' : Int × Int} {ok : Bool}
theorem bl_gap {g : List Int} (hg : g = [] ∨ g ∈ gapL) (r : List Int) {a : Nat} {p : Int × Int} (h : (sints t).drop a = g ++ r) (hr : BlR t (a + g.length) (plc g p) ok a' p') : BlR t a p ok a' p' := by
 rcases hg with rfl | hg
 ·exact hr
 ·simp only [gapL, List.mem_cons, List.not_mem_nil, or_false] at hg
  rcases hg with rfl | rfl | rfl | rfl | rfl | rfl
  ·exact bl_one _ _ rfl h hr
  ·exact bl_one _ _ rfl h hr
  ·refine bl_one _ _ rfl h ?_
   refine bl_one 13 (32 :: r) rfl (drop_more (g := [9]) h) ?_
   exact bl_one 32 r rfl (drop_more (g := [9, 13]) h) hr
  ·refine bl_one _ _ rfl h ?_
   refine bl_skip [47, 42, 32, 97, 32, 34, 32, 98, 32, 42, 47] r (by simp) (drop_more (g := [32]) h) ?_ hr
   simp [skS, clsS]
  ·refine bl_one _ _ rfl h ?_
   refine bl_skip [47, 47, 32, 120] (10 :: r) (by simp) (drop_more (g := [10]) h) ?_ ?_
   ·simp [skS, runS, nlB]
   ·exact bl_one 10 r rfl (drop_more (g := [10, 47, 47, 32, 120]) h) hr
  ·refine bl_one _ _ rfl h ?_
   refine bl_skip [47, 42, 42, 42, 47] r (by simp) (drop_more (g := [9]) h) ?_ hr
   simp [skS, clsS]
end
/-! ### all words, written anew -/
def anw : List TokV → (Nat → List Int) → List Int
 | [], G => []
 | x :: l, G => wrI x ++ (G 0 ++ anw l fun k => G (k + 1))
theorem anw_snoc : ∀ (l : List TokV) (x : TokV) (G : Nat → List Int), anw (l ++ [x]) G = anw l G ++ (wrI x ++ G l.length)
 | [], x, G => by simp [anw]
 | y :: l, x, G => by
  rw [List.cons_append, anw, anw_snoc l x, anw, List.length_cons]; simp [List.append_assoc]
theorem anew_lex {t : ByteArray} {a : Nat} {p : Int × Int} {l : List TokV} {f : Option FltV} (h : LexR t a p l f) (ha : a ≤ t.size) (hf : f = none) : ∀ (s : ByteArray) (G : Nat → List Int) (b : Nat) (q : Int × Int) (g : List Int),
  (∀ k, G k ∈ gapL) → (g = [] ∨ g ∈ gapL) → (sints s).drop b = g ++ anw l G → b ≤ s.size →
  ∃ l', LexR s b q l' none ∧ l'.map (fun x => (x.1, x.2.1)) = l.map (fun x => (x.1, x.2.1)) ∧ ∀ i y, i + 1 < l.length → l'[i]? = some y → y.2.2 = plc (g ++ anw (l.take i) G) q := by
 induction h with
 | opn _ => cases hf
 | bad _ _ _ => cases hf
 | @fin a p p' h =>
  intro s G b q g hG hg hs hb
  have hs : (sints s).drop b = g ++ (G 0 ++ []) := hs
  have hl := congrArg List.length hs
  rw [List.length_drop, sints_len, List.length_append, List.length_append, List.length_nil] at hl
  refine ⟨_, .fin (p' := plc (G 0) (plc g q)) ?_, rfl, fun i y hi => by simp at hi⟩
  refine bl_gap hg _ hs ?_
  refine bl_gap (.inr (hG 0)) _ (drop_more hs) ?_
  rw [show b + g.length + (G 0).length = s.size by omega]
  exact .fin rfl
 | @tok a p a' p' l f hbl hlt hc hr ih =>
  intro s G b q g hG hg hs hb
  have hle := hbl.le
  have hz : (t.extract a' t.size).size = t.size - a' := by rw [ByteArray.size_extract]; omega
  obtain ⟨z1, z2, z3⟩ := tokS_le (s := t.extract a' t.size) (by omega) hc
  obtain ⟨w1, w2⟩ := wrI_tok (s := t.extract a' t.size) (by omega) hc p'
  rw [anw, w1] at hs
  obtain ⟨b0, r0, e0, hb0⟩ := gap_head (hG 0)
  have hd := drop_more hs
  have hwl : ((sints (t.extract a' t.size)).take (tokS (t.extract a' t.size)).1).length = (tokS (t.extract a' t.size)).1 := by rw [List.length_take, sints_len]; omega
  have hl := congrArg List.length hs
  rw [List.length_drop, sints_len, List.length_append, List.length_append, hwl] at hl
  have hx := sints_suf s (b + g.length)
  obtain ⟨k1, k2⟩ := tokS_cut (s := t.extract a' t.size) (s' := s.extract (b + g.length) s.size) (by omega) hc hb0 (by rw [hx, hd, e0]; rfl)
  rw [hx] at k2
  have hB : BlR s b q true (b + g.length) (plc g q) := bl_gap hg _ hs (.done (by omega) k2)
  have hd2 := drop_more hd
  rw [hwl] at hd2
  obtain ⟨l', i1, i2, i3⟩ := ih (by omega) hf s (fun k => G (k + 1)) (b + g.length + (tokS (t.extract a' t.size)).1) (plc ((sints (t.extract a' t.size)).take (tokS (t.extract a' t.size)).1) (plc g q)) (G 0) (fun k => hG _) (.inr (hG 0)) hd2 (by omega)
  have ht := LexR.tok (t := s) (a := b) (p := q) hB (by omega) (by rw [k1]; exact hc) (l := l') (f := none) (by
   rw [k1, hd, List.take_left' hwl]; exact i1)
  rw [k1] at ht
  refine ⟨_, ht, by rw [List.map_cons, List.map_cons, i2], fun i y hi hy => ?_⟩
  cases i with
  | zero =>
   cases hy
   show plc g q = plc (g ++ anw [] G) q
   rw [anw, List.append_nil]
  | succ i =>
   rw [List.length_cons] at hi
   have hy : l'[i]? = some y := hy
   rw [i3 i y (by omega) hy, List.take_succ_cons, anw, w1, plc_app g, plc_app ((sints (t.extract a' t.size)).take (tokS (t.extract a' t.size)).1)]
theorem anw_len {t : ByteArray} {a : Nat} {p : Int × Int} {l : List TokV} {f : Option FltV} (h : LexR t a p l f) (ha : a ≤ t.size) : ∀ (G : Nat → List Int), (∀ k, G k ∈ gapL) → (anw l G).length ≤ (t.size - a) + 12 * l.length := by
 induction h with
 | opn _ => intro G hG; rw [anw]; simp
 | bad _ _ _ => intro G hG; rw [anw]; simp
 | fin _ =>
  intro G hG
  have := gap_len (hG 0)
  show ([] ++ (G 0 ++ [])).length ≤ _
  simp; omega
 | @tok a p a' p' l f hbl hlt hc hr ih =>
  intro G hG
  have hle := hbl.le
  have hz : (t.extract a' t.size).size = t.size - a' := by rw [ByteArray.size_extract]; omega
  obtain ⟨z1, z2, z3⟩ := tokS_le (s := t.extract a' t.size) (by omega) hc
  obtain ⟨w1, w2⟩ := wrI_tok (s := t.extract a' t.size) (by omega) hc p'
  have hwl : ((sints (t.extract a' t.size)).take (tokS (t.extract a' t.size)).1).length = (tokS (t.extract a' t.size)).1 := by rw [List.length_take, sints_len]; omega
  have := gap_len (hG 0)
  have := ih (by omega) (fun k => G (k + 1)) fun k => hG _
  rw [anw, w1, List.length_append, List.length_append, List.length_cons, hwl]
  omega
theorem lex_nonl {t : ByteArray} {a : Nat} {p : Int × Int} {l : List TokV} {f : Option FltV} (h : LexR t a p l f) (ha : a ≤ t.size) : ∀ x ∈ l, (x.1 = 3 → 10 ∉ sints x.2.1) ∧ x.2.1.size ≤ t.size := by
 induction h with
 | opn _ => intro x hx; cases hx
 | bad _ _ _ => intro x hx; cases hx
 | fin _ =>
  intro x hx
  rw [List.mem_singleton.1 hx]
  exact ⟨fun e => absurd e (by show ¬ (0 : Int) = 3; decide), Nat.zero_le _⟩
 | @tok a p a' p' l f hbl hlt hc hr ih =>
  intro x hx
  have hle := hbl.le
  have hz : (t.extract a' t.size).size = t.size - a' := by rw [ByteArray.size_extract]; omega
  obtain ⟨z1, z2, z3⟩ := tokS_le (s := t.extract a' t.size) (by omega) hc
  obtain ⟨w1, w2⟩ := wrI_tok (s := t.extract a' t.size) (by omega) hc p'
  rcases List.mem_cons.1 hx with rfl | hx
  ·refine ⟨w2, ?_⟩
   have := tokS_txt hc
   show (tokS (t.extract a' t.size)).2.1.2.size ≤ _
   omega
  ·exact ih (by omega) x hx
def m_l06_written (p0_t : (Int × ByteArray × Int × Int)) : Option ByteArray :=
  if (decide (p0_t.1 = 3)) = true then ((m_quote p0_t.2.1).bind fun r_6 => some r_6) else (some p0_t.2.1)
theorem c_l06_written {col : Col} {w0 : World} {p0_t : (Int × ByteArray × Int × Int)} {r : ByteArray} (hm : m_l06_written p0_t = some r)  :
    Calls Tryz.prog 22 #[(.agg #[(.int .i8 p0_t.1), (.string p0_t.2.1), (.int .i64 p0_t.2.2.1), (.int .i64 p0_t.2.2.2)])] w0 (fun e w' => e = .returned ((.string r)) ∧ Below w0.heap.size w0 w') := by
 refine calls_of1 2 (m := 11) Tryz.func22 rfl rfl rfl rfl rfl ?_;rw [m_l06_written.eq_1] at hm;have hst := St.start col w0;refine go ?_;refine l_boxA (col := (col0 col)) 1 rfl ?_;intro g_1 w_2 col_3 hg_4 hb_5;refine go ?_;refine lFLb hb_5 ?_;refine go ?_;replace hst := hst.grow hg_4;refine wcb hm (fun hb hm => go ?_) fun hb hm => go ?_
 ·refine lFLb hb_5 ?_;obtain ⟨r_6, hr_7, hm⟩ := bZ hm;refine lcA (c_lex_Quote col_3 _ p0_t.2.1 r_6 hr_7) ?_;rintro _ w_8 ⟨rfl, hg_9⟩;refine ⟨_, rfl, ?_⟩;replace hg_9 : Grow col_3 w_2 col_3 w_8 := .of_below hg_9;refine go ?_;cases hm;replace hst := hst.grow hg_9;exact ⟨rfl, rfl, hst.below⟩
 refine lFLb hb_5 ?_;refine go ?_;cases hm;exact ⟨rfl, rfl, hst.below⟩
def m_l06_alike_J1 (i_4 : Int) (kk_L1 : (Int → Option Bool)) (v_85 : Bool) : Option Bool :=
  if v_85 = true then (some false) else (kk_L1 (IntKind.i64.wrap (i_4 + 1)))
def m_l06_alike_L1 (N : Nat) (p0_a : (List (Int × ByteArray × Int × Int))) (p1_b : (List (Int × ByteArray × Int × Int))) : Nat → Int → Option Bool
  | 0, _ => none
  | n_1 + 1, i_4 => if (decide (i_4 < (p0_a.length : Int))) = true then ((at? p0_a i_4).bind fun e_86 => (at? p1_b i_4).bind fun e_96 => if (!decide (e_86.1 = e_96.1)) = true then (m_l06_alike_J1 i_4 (m_l06_alike_L1 N p0_a p1_b n_1) true) else (m_l06_alike_J1 i_4 (m_l06_alike_L1 N p0_a p1_b n_1) (!decide (e_86.2.1 = e_96.2.1)))) else (some true)
termination_by structural x => x
def m_l06_alike (N : Nat) (p0_a : (List (Int × ByteArray × Int × Int))) (p1_b : (List (Int × ByteArray × Int × Int))) : Option Bool :=
  if (!decide ((p0_a.length : Int) = (p1_b.length : Int))) = true then (some false) else (m_l06_alike_L1 N p0_a p1_b N 0)
theorem c_l06_alike {N cap0 cap1 : Nat} {a0 a1 : Option Addr} {col : Col} {w0 : World} {p0_a p1_b : (List (Int × ByteArray × Int × Int))} {r : Bool} (hm : m_l06_alike N p0_a p1_b = some r) (h0 : Sl (Rep.pair (Rep.int .i8) (Rep.pair Rep.str (Rep.pair (Rep.int .i64) (Rep.int .i64)))) col w0 a0 cap0 p0_a) (h1 : Sl (Rep.pair (Rep.int .i8) (Rep.pair Rep.str (Rep.pair (Rep.int .i64) (Rep.int .i64)))) col w0 a1 cap1 p1_b) :
    Calls Tryz.prog 23 #[(.slice a0 p0_a.length cap0), (.slice a1 p1_b.length cap1)] w0 (fun e w' => e = .returned ((.bool r)) ∧ Below w0.heap.size w0 w') := by
 refine calls_of1 4 (m := 41) Tryz.func23 rfl rfl rfl rfl rfl ?_;rw [m_l06_alike.eq_1] at hm;have hst := St.start col w0;refine go ?_;replace h0 := h0.keep (Stay.start col w0);replace h1 := h1.keep (Stay.start col w0);refine wcb hm (fun hb hm => go ?_) fun hb hm => go ?_
 ·cases hm;exact ⟨rfl, rfl, hst.below⟩
 refine wloopK [0, 1, 1000000] (fun n f w_2 => ∃ col_3 i_4 n_1, n_1 = n ∧ m_l06_alike_L1 N p0_a p1_b n_1 i_4 = some r ∧ St w0 (col0 col) col_3 w_2 ∧ [5].map f = [.int .i64 i_4]) N ⟨_, 0, _, rfl, hm, hst, rfl⟩ ?_;clear hm; intro n f w_2 hI;obtain ⟨col_3, i_4, n_1, hn, hm, hst, hs⟩ := hI;subst hn;refine .lL [5] hs ?_
 cases n_1 with
 | zero => rw [m_l06_alike_L1.eq_1] at hm; cases hm
 | succ n_1 =>
  rw [m_l06_alike_L1.eq_2] at hm;refine go ?_;refine wcb hm (fun hb hm => ?_) fun hb hm => go ?_
  ·refine wskip <| wseq <| wblock <| wseq ?_;refine Wp.cutK [0, 1, 5, 1000000] (fun f w_83 => ∃ col_84 v_85, m_l06_alike_J1 i_4 (m_l06_alike_L1 N p0_a p1_b n_1) v_85 = some r ∧ St w0 (col0 col) col_84 w_83 ∧ [40].map f = [.bool v_85]) ?_ ?_
   ·intro f w_83 hJ;obtain ⟨col_84, v_85, hm, hst, hs⟩ := hJ;rw [m_l06_alike_J1.eq_1] at hm;refine .lL [40] hs ?_;refine wcb hm (fun hb hm => go ?_) fun hb hm => go ?_
    ·cases hm;exact ⟨rfl, rfl, hst.below⟩
    exact ⟨n_1, by omega, rfl, ⟨_, _, _, rfl, hm, hst, rfl⟩⟩
   refine wquiet (col := col_3) (by kernel_rfl) (by kernel_rfl) <| go ?_;obtain ⟨e_86, hj_87, hm⟩ := bZ hm;refine qI hj_87 ((h0.ks hst).addr hj_87) <| qF (sptr_addr ((h0.ks hst).addr hj_87)) ?_;obtain ⟨_, hr_88, hA_89⟩ := (h0.ks hst).atN hj_87;obtain ⟨_, _, rfl, hp_90, hp_91⟩ := rd_pair hr_88;obtain ⟨rfl, _⟩ := hp_90;obtain ⟨_, _, rfl, hp_92, hp_93⟩ := rd_pair hp_91;obtain ⟨rfl, _⟩ := hp_92;obtain ⟨_, _, rfl, hp_94, hp_95⟩ := rd_pair hp_93;obtain ⟨rfl, _⟩ := hp_94;obtain ⟨rfl, _⟩ := hp_95;refine qW (fun _ hC => ((hA_89).nth (q := 0) rfl).gr (hC.bl col_3)) ?_;refine go ?_;obtain ⟨e_96, hj_97, hm⟩ := bZ hm;refine qI hj_97 ((h1.ks hst).addr hj_97) <| qF (sptr_addr ((h1.ks hst).addr hj_97)) ?_;obtain ⟨_, hr_98, hA_99⟩ := (h1.ks hst).atN hj_97;obtain ⟨_, _, rfl, hp_100, hp_101⟩ := rd_pair hr_98;obtain ⟨rfl, _⟩ := hp_100;obtain ⟨_, _, rfl, hp_102, hp_103⟩ := rd_pair hp_101;obtain ⟨rfl, _⟩ := hp_102;obtain ⟨_, _, rfl, hp_104, hp_105⟩ := rd_pair hp_103;obtain ⟨rfl, _⟩ := hp_104;obtain ⟨rfl, _⟩ := hp_105;refine qW (fun _ hC => ((hA_99).nth (q := 0) rfl).gr (hC.bl col_3)) ?_;refine go ?_;refine bcb hm (fun hg_106 hm => go ?_) fun hg_106 hm => go ?_
   ·refine qv (v := (.bool true)) rfl (fun _ hC => r_pickT (congrArg Value.bool hg_106) rfl) ?_;refine qnil ?_;intro w_107 hC;replace hC := hC.bl col_3;replace hst := hst.grow hC;exact ⟨rfl, _, _, hm, hst, rfl⟩
   refine qI hj_87 ((h0.ks hst).addr hj_87) ?_;refine go ?_;refine qF (sptr_addr ((h0.ks hst).addr hj_87)) ?_;refine go ?_;obtain ⟨_, hr_108, hA_109⟩ := (h0.ks hst).atN hj_87;obtain ⟨_, _, rfl, hp_110, hp_111⟩ := rd_pair hr_108;obtain ⟨rfl, _⟩ := hp_110;obtain ⟨_, _, rfl, hp_112, hp_113⟩ := rd_pair hp_111;obtain ⟨rfl, _⟩ := hp_112;obtain ⟨_, _, rfl, hp_114, hp_115⟩ := rd_pair hp_113;obtain ⟨rfl, _⟩ := hp_114;obtain ⟨rfl, _⟩ := hp_115;refine qW (fun _ hC => ((hA_109).nth (q := 1) rfl).gr (hC.bl col_3)) ?_;refine go ?_;refine qI hj_97 ((h1.ks hst).addr hj_97) ?_;refine go ?_;refine qF (sptr_addr ((h1.ks hst).addr hj_97)) ?_;refine go ?_;obtain ⟨_, hr_116, hA_117⟩ := (h1.ks hst).atN hj_97;obtain ⟨_, _, rfl, hp_118, hp_119⟩ := rd_pair hr_116;obtain ⟨rfl, _⟩ := hp_118;obtain ⟨_, _, rfl, hp_120, hp_121⟩ := rd_pair hp_119;obtain ⟨rfl, _⟩ := hp_120;obtain ⟨_, _, rfl, hp_122, hp_123⟩ := rd_pair hp_121;obtain ⟨rfl, _⟩ := hp_122;obtain ⟨rfl, _⟩ := hp_123;refine qW (fun _ hC => ((hA_117).nth (q := 1) rfl).gr (hC.bl col_3)) ?_;refine go ?_;refine qv (v := (.bool (!decide (e_86.2.1 = e_96.2.1)))) rfl (fun _ hC => r_pickF (congrArg Value.bool hg_106) rfl) ?_;refine qnil ?_;intro w_124 hC;replace hC := hC.bl col_3;replace hst := hst.grow hC;exact ⟨rfl, _, _, hm, hst, rfl⟩
  cases hm;exact ⟨rfl, rfl, hst.below⟩
def m_l06_LexApart_J2 (v_24 : Bool) : Option Bool :=
  some v_24
def m_l06_LexApart_J3 (i_38 : Int) (kk_L1 : ((List Int) → Int → ByteArray → Option Bool)) (starts_42 : List Int) (anew_46 : ByteArray) : Option Bool :=
  kk_L1 starts_42 (IntKind.i64.wrap (i_38 + 1)) anew_46
def m_l06_LexApart_J5 (r_5 : ((List (Int × ByteArray × Int × Int)) × (Option (Int × Int × Int × ByteArray)))) (starts_34 : List Int) (i_38 : Int) (anew_39 : ByteArray) (kk_L1 : ((List Int) → Int → ByteArray → Option Bool)) (k_52 : Int) : Option Bool :=
  chk ((starts_34.length + [(anew_39.size : Int)].length) * 8 ≤ 140737488355328 ∧ starts_34.length + [(anew_39.size : Int)].length ≤ maxLen) ((at? r_5.1 i_38).bind fun e_65 => (m_l06_written (e_65.1, e_65.2.1, e_65.2.2.1, e_65.2.2.2)).bind fun r_75 => chk (anew_39.size + r_75.size ≤ maxLen) ((at? ([⟨#[32]⟩, ⟨#[10]⟩, ⟨#[9, 13, 32]⟩, ⟨#[32, 47, 42, 32, 97, 32, 34, 32, 98, 32, 42, 47]⟩, ⟨#[10, 47, 47, 32, 120, 10]⟩, ⟨#[9, 47, 42, 42, 42, 47]⟩] : List ByteArray) k_52).bind fun e_78 => chk ((anew_39 ++ r_75).size + e_78.size ≤ maxLen) (m_l06_LexApart_J3 i_38 kk_L1 (starts_34 ++ [(anew_39.size : Int)]) ((anew_39 ++ r_75) ++ e_78))))
def m_l06_LexApart_J4 (r_5 : ((List (Int × ByteArray × Int × Int)) × (Option (Int × Int × Int × ByteArray)))) (starts_34 : List Int) (i_38 : Int) (anew_39 : ByteArray) (kk_L1 : ((List Int) → Int → ByteArray → Option Bool)) (k_49 : Int) : Option Bool :=
  if (decide (k_49 < 0)) = true then (m_l06_LexApart_J5 r_5 starts_34 i_38 anew_39 kk_L1 (IntKind.i64.wrap (k_49 + (([⟨#[32]⟩, ⟨#[10]⟩, ⟨#[9, 13, 32]⟩, ⟨#[32, 47, 42, 32, 97, 32, 34, 32, 98, 32, 42, 47]⟩, ⟨#[10, 47, 47, 32, 120, 10]⟩, ⟨#[9, 47, 42, 42, 42, 47]⟩] : List ByteArray).length : Int)))) else (m_l06_LexApart_J5 r_5 starts_34 i_38 anew_39 kk_L1 k_49)
def m_l06_LexApart_J7 (k_119 : Int) (kk_L3 : (Int → Int → Int → Option Bool)) (line_124 : Int) (col_125 : Int) : Option Bool :=
  kk_L3 line_124 col_125 (IntKind.i64.wrap (k_119 + 1))
def m_l06_LexApart_J8 (i_113 : Int) (kk_L2 : (Int → Option Bool)) (v_168 : Bool) : Option Bool :=
  if v_168 = true then (some false) else (kk_L2 (IntKind.i64.wrap (i_113 + 1)))
def m_l06_LexApart_L3 (N : Nat) (starts_34 : List Int) (anew_39 : ByteArray) (r_85 : ((List (Int × ByteArray × Int × Int)) × (Option (Int × Int × Int × ByteArray)))) (i_113 : Int) (kk_L2 : (Int → Option Bool)) : Nat → Int → Int → Int → Option Bool
  | 0, _, _, _ => none
  | n_114 + 1, line_117, col_118, k_119 => (at? starts_34 i_113).bind fun e_120 => if (decide (k_119 < e_120)) = true then ((bat? anew_39 k_119).bind fun e_126 => if (decide (e_126 = 10)) = true then (m_l06_LexApart_J7 k_119 (m_l06_LexApart_L3 N starts_34 anew_39 r_85 i_113 kk_L2 n_114) (IntKind.i64.wrap (line_117 + 1)) 1) else (m_l06_LexApart_J7 k_119 (m_l06_LexApart_L3 N starts_34 anew_39 r_85 i_113 kk_L2 n_114) line_117 (IntKind.i64.wrap (col_118 + 1)))) else ((at? r_85.1 i_113).bind fun e_169 => if (!decide (e_169.2.2.1 = line_117)) = true then (m_l06_LexApart_J8 i_113 kk_L2 true) else (m_l06_LexApart_J8 i_113 kk_L2 (!decide (e_169.2.2.2 = col_118))))
termination_by structural x => x
def m_l06_LexApart_L2 (N : Nat) (starts_34 : List Int) (anew_39 : ByteArray) (r_85 : ((List (Int × ByteArray × Int × Int)) × (Option (Int × Int × Int × ByteArray)))) : Nat → Int → Option Bool
  | 0, _ => none
  | n_110 + 1, i_113 => if (decide (i_113 < (IntKind.i64.wrap ((r_85.1.length : Int) - 1)))) = true then (m_l06_LexApart_L3 N starts_34 anew_39 r_85 i_113 (m_l06_LexApart_L2 N starts_34 anew_39 r_85 n_110) N 1 1 0) else ((at? r_85.1 (IntKind.i64.wrap ((r_85.1.length : Int) - 1))).bind fun e_188 => some (decide (e_188.1 = 0)))
termination_by structural x => x
def m_l06_LexApart_J6 (N : Nat) (starts_34 : List Int) (anew_39 : ByteArray) (r_85 : ((List (Int × ByteArray × Int × Int)) × (Option (Int × Int × Int × ByteArray)))) (v_109 : Bool) : Option Bool :=
  if v_109 = true then (some false) else (m_l06_LexApart_L2 N starts_34 anew_39 r_85 N 0)
def m_l06_LexApart_L1 (N : Nat) (p1_between : (List Int)) (r_1 : Bool) (r_5 : ((List (Int × ByteArray × Int × Int)) × (Option (Int × Int × Int × ByteArray)))) : Nat → (List Int) → Int → ByteArray → Option Bool
  | 0, _, _, _ => none
  | n_31 + 1, starts_34, i_38, anew_39 => if (decide (i_38 < (r_5.1.length : Int))) = true then (if (decide (i_38 < (p1_between.length : Int))) = true then ((at? p1_between i_38).bind fun e_82 => chk ((([⟨#[32]⟩, ⟨#[10]⟩, ⟨#[9, 13, 32]⟩, ⟨#[32, 47, 42, 32, 97, 32, 34, 32, 98, 32, 42, 47]⟩, ⟨#[10, 47, 47, 32, 120, 10]⟩, ⟨#[9, 47, 42, 42, 42, 47]⟩] : List ByteArray).length : Int) ≠ 0) (m_l06_LexApart_J4 r_5 starts_34 i_38 anew_39 (m_l06_LexApart_L1 N p1_between r_1 r_5 n_31) (Int.tmod e_82 (([⟨#[32]⟩, ⟨#[10]⟩, ⟨#[9, 13, 32]⟩, ⟨#[32, 47, 42, 32, 97, 32, 34, 32, 98, 32, 42, 47]⟩, ⟨#[10, 47, 47, 32, 120, 10]⟩, ⟨#[9, 47, 42, 42, 42, 47]⟩] : List ByteArray).length : Int)))) else (m_l06_LexApart_J4 r_5 starts_34 i_38 anew_39 (m_l06_LexApart_L1 N p1_between r_1 r_5 n_31) 0)) else ((m_lex_Scan N anew_39).bind fun r_85 => if (!r_1) = true then (m_l06_LexApart_J6 N starts_34 anew_39 r_85 true) else (if r_85.2.isSome = true then (m_l06_LexApart_J6 N starts_34 anew_39 r_85 true) else ((m_l06_alike N r_5.1 r_85.1).bind fun r_200 => m_l06_LexApart_J6 N starts_34 anew_39 r_85 (!r_200))))
termination_by structural x => x
def m_l06_LexApart_J1 (N : Nat) (p1_between : (List Int)) (r_1 : Bool) (r_5 : ((List (Int × ByteArray × Int × Int)) × (Option (Int × Int × Int × ByteArray)))) (v_19 : Bool) : Option Bool :=
  if v_19 = true then (if r_1 = true then (m_l06_LexApart_J2 r_5.2.isSome) else (m_l06_LexApart_J2 false)) else (m_l06_LexApart_L1 N p1_between r_1 r_5 N ([] : List Int) 0 (⟨#[]⟩))
def m_l06_LexApart (N : Nat) (p0_text : ByteArray) (p1_between : (List Int)) : Option Bool :=
  (m_l06_awake N).bind fun r_1 => if (decide (1048576 < (p0_text.size : Int))) = true then (some r_1) else ((m_lex_Scan N p0_text).bind fun r_5 => if r_5.2.isSome = true then (m_l06_LexApart_J1 N p1_between r_1 r_5 true) else (m_l06_LexApart_J1 N p1_between r_1 r_5 (decide ((r_5.1.length : Int) = 0))))
theorem c_l06_LexApart (N : Nat) (col : Col) (w0 : World) (p0_text : ByteArray) (a1 : Option Addr) (cap1 : Nat) (p1_between : (List Int)) (h1 : Sl (Rep.int .i64) col w0 a1 cap1 p1_between) (hgl : Gl (.iface 146 (.agg #[.pointer (some ⟨4, 30, none⟩)])) col w0) (r : Bool) (hm : m_l06_LexApart N p0_text p1_between = some r) :
    Calls Tryz.prog 6 #[(.string p0_text), (.slice a1 p1_between.length cap1)] w0 (fun e w' => e = .returned ((.bool r)) ∧ Below w0.heap.size w0 w') := by
 refine calls_of1 4 (m := 145) Tryz.func6 rfl rfl rfl rfl rfl ?_;rw [m_l06_LexApart.eq_1] at hm;have hst := St.start col w0;refine go ?_;obtain ⟨r_1, hr_2, hm⟩ := bZ hm;replace hgl := hgl.keep (Stay.start col w0);refine lc rfl rfl (r_call0 Tryz.call10 ) (c_l06_awake hr_2 hgl :) ?_;rintro _ w_3 ⟨rfl, hg_4⟩;refine ⟨_, rfl, ?_⟩;replace h1 := h1.keep (Stay.start col w0);replace hg_4 : Grow (col0 col) w0 (col0 col) w_3 := .of_below hg_4;refine go ?_;replace hgl := hgl.gr hg_4;replace hst := hst.grow hg_4;refine wcb hm (fun hb hm => go ?_) fun hb hm => go ?_
 ·cases hm;exact ⟨rfl, rfl, hst.below⟩
 obtain ⟨r_5, hr_6, hm⟩ := bZ hm;refine lcA (c_lex_Scan 1 hr_6 hgl) ?_;rintro _ w_12 ⟨col_14, ra_7, rc_8, rv_10, rfl, hg_13, rh_9, rh_11⟩;refine ⟨_, rfl, ?_⟩;refine lM (.tuple #[(.slice ra_7 r_5.1.length rc_8), rv_10]) <| lV (.slice ra_7 r_5.1.length rc_8) (r_extract rfl rfl) <| lv (v := rv_10) rfl rfl (r_extract rfl rfl) <| lAS rfl <| lv (v := rv_10) rfl rfl (r_assign rfl) <| lnil <| wseq <| wseq ?_;replace hgl := hgl.gr hg_13;replace hst := hst.grow hg_13;refine Wp.cutK [1, 5, 6, 7, 1000000] (fun f w_17 => ∃ col_18 v_19, m_l06_LexApart_J1 N p1_between r_1 r_5 v_19 = some r ∧ St w0 (col0 col) col_18 w_17 ∧ Own (Rep.pair (Rep.int .i8) (Rep.pair Rep.str (Rep.pair (Rep.int .i64) (Rep.int .i64)))) 38 1 col_18 w_17 ra_7 rc_8 r_5.1 ∧ Rd (Rep.err 57 26 (Rep.pair (Rep.int .i64) (Rep.pair (Rep.int .i64) (Rep.pair (Rep.int .i64) Rep.str)))) col_18 w_17 [rv_10] r_5.2 ∧ Gl (.iface 146 (.agg #[.pointer (some ⟨4, 30, none⟩)])) col_18 w_17 ∧ [34].map f = [.bool v_19]) ?_ ?_
 ·intro f w_17 hJ;obtain ⟨col_18, v_19, hm, hst, rh_9, rh_11, hgl, hs⟩ := hJ;rw [m_l06_LexApart_J1.eq_1] at hm;refine .lL [34] hs ?_;refine wcb hm (fun hb hm => ?_) fun hb hm => go ?_
  ·refine wseq ?_;refine Wp.cutK [1000000] (fun f w_22 => ∃ col_23 v_24, m_l06_LexApart_J2 v_24 = some r ∧ St w0 (col0 col) col_23 w_22 ∧ Gl (.iface 146 (.agg #[.pointer (some ⟨4, 30, none⟩)])) col_23 w_22 ∧ [4].map f = [.bool v_24]) ?_ ?_
   ·intro f w_22 hJ;obtain ⟨col_23, v_24, hm, hst, hgl, hs⟩ := hJ;rw [m_l06_LexApart_J2.eq_1] at hm;refine .lL [4] hs <| wret ?_;cases hm;exact ⟨rfl, rfl, hst.below⟩
   refine go ?_;refine bcb hm (fun hg_25 hm => go ?_) fun hg_25 hm => go ?_
   ·refine lv (v := rv_10) rfl rfl (r_move rfl) <| go ?_;refine lV (.bool r_5.2.isSome) (r_neqE rh_11 Tryz.underlying30 rfl) <| lV (.bool r_5.2.isSome) (r_pickT (congrArg Value.bool hg_25) rfl) <| go ?_;exact ⟨rfl, _, _, hm, hst, hgl, rfl⟩
   refine lV (.bool false) (r_pickF (congrArg Value.bool hg_25) rfl) <| go ?_;exact ⟨rfl, _, _, hm, hst, hgl, rfl⟩
  refine l_litS (col := col_18) ([⟨#[32]⟩, ⟨#[10]⟩, ⟨#[9, 13, 32]⟩, ⟨#[32, 47, 42, 32, 97, 32, 34, 32, 98, 32, 42, 47]⟩, ⟨#[10, 47, 47, 32, 120, 10]⟩, ⟨#[9, 47, 42, 42, 42, 47]⟩] : List ByteArray) 2 ?_;intro a_26 w_27 col_28 hg_29 h_30;refine go ?_;replace rh_9 := rh_9.gr hg_29;replace hgl := hgl.gr hg_29;replace hst := hst.grow hg_29;refine wloopK [1, 5, 6, 8, 1000000] (fun n f w_32 => ∃ col_33 a_35 cap_36 starts_34 i_38 anew_39 n_31, n_31 = n ∧ m_l06_LexApart_L1 N p1_between r_1 r_5 n_31 starts_34 i_38 anew_39 = some r ∧ St w0 (col0 col) col_33 w_32 ∧ Own (Rep.int .i64) 3 3 col_33 w_32 a_35 cap_36 starts_34 ∧ Own (Rep.pair (Rep.int .i8) (Rep.pair Rep.str (Rep.pair (Rep.int .i64) (Rep.int .i64)))) 38 1 col_33 w_32 ra_7 rc_8 r_5.1 ∧ Own Rep.str 9 2 col_33 w_32 a_26 6 ([⟨#[32]⟩, ⟨#[10]⟩, ⟨#[9, 13, 32]⟩, ⟨#[32, 47, 42, 32, 97, 32, 34, 32, 98, 32, 42, 47]⟩, ⟨#[10, 47, 47, 32, 120, 10]⟩, ⟨#[9, 47, 42, 42, 42, 47]⟩] : List ByteArray) ∧ Gl (.iface 146 (.agg #[.pointer (some ⟨4, 30, none⟩)])) col_33 w_32 ∧ [10, 11, 9].map f = [.slice a_35 starts_34.length cap_36, .int .i64 i_38, .string anew_39]) N ⟨_, none, 0, _, 0, _, _, rfl, hm, hst, Own.nil, rh_9, h_30, hgl, rfl⟩ ?_;clear hm; intro n f w_32 hI;obtain ⟨col_33, a_35, cap_36, starts_34, i_38, anew_39, n_31, hn, hm, hst, h_37, rh_9, h_30, hgl, hs⟩ := hI;subst hn;refine .lL [10, 11, 9] hs ?_
  cases n_31 with
  | zero => rw [m_l06_LexApart_L1.eq_1] at hm; cases hm
  | succ n_31 =>
   rw [m_l06_LexApart_L1.eq_2] at hm;refine go ?_;refine wcb hm (fun hb hm => ?_) fun hb hm => go ?_
   ·refine wskip <| wseq ?_;refine Wp.cutK [1, 11, 5, 6, 8, 1000000] (fun f w_40 => ∃ col_41 a_43 cap_44 starts_42 anew_46, m_l06_LexApart_J3 i_38 (m_l06_LexApart_L1 N p1_between r_1 r_5 n_31) starts_42 anew_46 = some r ∧ St w0 (col0 col) col_41 w_40 ∧ Own (Rep.int .i64) 3 3 col_41 w_40 a_43 cap_44 starts_42 ∧ Own (Rep.pair (Rep.int .i8) (Rep.pair Rep.str (Rep.pair (Rep.int .i64) (Rep.int .i64)))) 38 1 col_41 w_40 ra_7 rc_8 r_5.1 ∧ Own Rep.str 9 2 col_41 w_40 a_26 6 ([⟨#[32]⟩, ⟨#[10]⟩, ⟨#[9, 13, 32]⟩, ⟨#[32, 47, 42, 32, 97, 32, 34, 32, 98, 32, 42, 47]⟩, ⟨#[10, 47, 47, 32, 120, 10]⟩, ⟨#[9, 47, 42, 42, 42, 47]⟩] : List ByteArray) ∧ Gl (.iface 146 (.agg #[.pointer (some ⟨4, 30, none⟩)])) col_41 w_40 ∧ [10, 9].map f = [.slice a_43 starts_42.length cap_44, .string anew_46]) ?_ ?_
    ·intro f w_40 hJ;obtain ⟨col_41, a_43, cap_44, starts_42, anew_46, hm, hst, h_45, rh_9, h_30, hgl, hs⟩ := hJ;rw [m_l06_LexApart_J3.eq_1] at hm;refine .lL [10, 9] hs <| go ?_;exact ⟨n_31, by omega, rfl, ⟨_, _, _, _, _, _, _, rfl, hm, hst, h_45, rh_9, h_30, hgl, rfl⟩⟩
    refine wblock <| wseq <| wregion <| lAI rfl <| lnil <| wseq ?_;refine Wp.cutK [1, 10, 11, 5, 6, 8, 9, 1000000] (fun f w_47 => ∃ col_48 k_49, m_l06_LexApart_J4 r_5 starts_34 i_38 anew_39 (m_l06_LexApart_L1 N p1_between r_1 r_5 n_31) k_49 = some r ∧ St w0 (col0 col) col_48 w_47 ∧ Own (Rep.int .i64) 3 3 col_48 w_47 a_35 cap_36 starts_34 ∧ Own (Rep.pair (Rep.int .i8) (Rep.pair Rep.str (Rep.pair (Rep.int .i64) (Rep.int .i64)))) 38 1 col_48 w_47 ra_7 rc_8 r_5.1 ∧ Own Rep.str 9 2 col_48 w_47 a_26 6 ([⟨#[32]⟩, ⟨#[10]⟩, ⟨#[9, 13, 32]⟩, ⟨#[32, 47, 42, 32, 97, 32, 34, 32, 98, 32, 42, 47]⟩, ⟨#[10, 47, 47, 32, 120, 10]⟩, ⟨#[9, 47, 42, 42, 42, 47]⟩] : List ByteArray) ∧ Gl (.iface 146 (.agg #[.pointer (some ⟨4, 30, none⟩)])) col_48 w_47 ∧ [12].map f = [.int .i64 k_49]) ?_ ?_
    ·intro f w_47 hJ;obtain ⟨col_48, k_49, hm, hst, h_37, rh_9, h_30, hgl, hs⟩ := hJ;rw [m_l06_LexApart_J4.eq_1] at hm;refine .lL [12] hs <| wseq ?_;refine Wp.cutK [1, 10, 11, 5, 6, 8, 9, 1000000] (fun f w_50 => ∃ col_51 k_52, m_l06_LexApart_J5 r_5 starts_34 i_38 anew_39 (m_l06_LexApart_L1 N p1_between r_1 r_5 n_31) k_52 = some r ∧ St w0 (col0 col) col_51 w_50 ∧ Own (Rep.int .i64) 3 3 col_51 w_50 a_35 cap_36 starts_34 ∧ Own (Rep.pair (Rep.int .i8) (Rep.pair Rep.str (Rep.pair (Rep.int .i64) (Rep.int .i64)))) 38 1 col_51 w_50 ra_7 rc_8 r_5.1 ∧ Own Rep.str 9 2 col_51 w_50 a_26 6 ([⟨#[32]⟩, ⟨#[10]⟩, ⟨#[9, 13, 32]⟩, ⟨#[32, 47, 42, 32, 97, 32, 34, 32, 98, 32, 42, 47]⟩, ⟨#[10, 47, 47, 32, 120, 10]⟩, ⟨#[9, 47, 42, 42, 42, 47]⟩] : List ByteArray) ∧ Gl (.iface 146 (.agg #[.pointer (some ⟨4, 30, none⟩)])) col_51 w_50 ∧ [12].map f = [.int .i64 k_52]) ?_ ?_
     ·intro f w_50 hJ;obtain ⟨col_51, k_52, hm, hst, h_37, rh_9, h_30, hgl, hs⟩ := hJ;rw [m_l06_LexApart_J5.eq_1] at hm;refine .lL [12] hs <| go ?_;refine l_litI (col := col_51) [(anew_39.size : Int)] 4 ?_;intro a_53 w_54 col_55 hg_56 h_57;obtain ⟨hb_58, hm⟩ := chk_some hm;replace h_37 := h_37.gr hg_56;refine l_appA h_37 (h_57.srcN (NB.int (k := .i64))) hb_58 ?_;intro a_59 cap_60 w_61 col_62 hk_63 h_64;refine go ?_;refine wquiet (col := col_62) (by kernel_rfl) (by kernel_rfl) <| go ?_;obtain ⟨e_65, hj_66, hm⟩ := bZ hm;replace rh_9 := (rh_9.gr hg_56).kpp hk_63;refine qI hj_66 (rh_9.addr hj_66) ?_;obtain ⟨_, hr_67, hA_68⟩ := rh_9.atN hj_66;obtain ⟨_, _, rfl, hp_69, hp_70⟩ := hr_67.parts;obtain rfl := hp_69.int;obtain ⟨_, _, rfl, hp_71, hp_72⟩ := hp_70.parts;obtain rfl := hp_71.str;obtain ⟨_, _, rfl, hp_73, hp_74⟩ := hp_72.parts;obtain rfl := hp_73.int;obtain rfl := hp_74.int;refine qv (v := (.agg #[(.int .i8 e_65.1), (.string e_65.2.1), (.int .i64 e_65.2.2.1), (.int .i64 e_65.2.2.2)])) rfl (fun _ hC => r_ldN Tryz.isAgg38 Tryz.sizeOf38 rfl rfl (hA_68.gr (hC.bl col_62))) ?_;obtain ⟨r_75, hr_76, hm⟩ := bZ hm;refine qc (v := (.string r_75)) rfl (fun _ hC => ⟨_, _, r_call1 Tryz.call22 rfl, (c_l06_written (col := col_62) hr_76 :).mono fun _ _ h => ⟨h.1, hC.trans (.of_below h.2)⟩⟩) ?_;obtain ⟨hb_77, hm⟩ := chk_some hm;refine qv (v := (.string (anew_39 ++ r_75))) rfl (fun _ hC => r_addS Tryz.underlying9 rfl rfl hb_77) ?_;refine go ?_;obtain ⟨e_78, hj_79, hm⟩ := bZ hm;replace h_30 := (h_30.gr hg_56).kpp hk_63;refine qI hj_79 (h_30.addr hj_79) <| qW (fun _ hC => (h_30.gr (hC.bl col_62)).atStr hj_79) ?_;obtain ⟨hb_80, hm⟩ := chk_some hm;refine qv (v := (.string ((anew_39 ++ r_75) ++ e_78))) rfl (fun _ hC => r_addS Tryz.underlying9 rfl rfl hb_80) ?_;refine go ?_;refine qnil ?_;intro w_81 hC;replace hC := hC.bl col_62;replace hgl := ((hgl.gr hg_56).kpp hk_63).gr hC;replace hst := ((hst.grow hg_56).kpp hk_63).grow hC;replace rh_9 := rh_9.gr hC;replace h_30 := h_30.gr hC;replace h_64 := h_64.gr hC;exact ⟨rfl, _, _, _, _, _, hm, hst, h_64, rh_9, h_30, hgl, rfl⟩
     refine go ?_;refine wcb hm (fun hb hm => go ?_) fun hb hm => ?_
     ·exact ⟨rfl, _, _, hm, hst, h_37, rh_9, h_30, hgl, rfl⟩
     refine wskip ?_;exact ⟨rfl, _, _, hm, hst, h_37, rh_9, h_30, hgl, rfl⟩
    refine go ?_;refine wcb hm (fun hb hm => go ?_) fun hb hm => ?_
    ·obtain ⟨e_82, hj_83, hm⟩ := bZ hm;refine lI hj_83 ((h1.ks hst).addr hj_83) <| lW ((h1.ks hst).atInt hj_83) ?_;refine go ?_;obtain ⟨h0_84, hm⟩ := chk_some hm;refine lV (.int .i64 (Int.tmod e_82 (([⟨#[32]⟩, ⟨#[10]⟩, ⟨#[9, 13, 32]⟩, ⟨#[32, 47, 42, 32, 97, 32, 34, 32, 98, 32, 42, 47]⟩, ⟨#[10, 47, 47, 32, 120, 10]⟩, ⟨#[9, 47, 42, 42, 42, 47]⟩] : List ByteArray).length : Int))) (r_rem e_82 (([⟨#[32]⟩, ⟨#[10]⟩, ⟨#[9, 13, 32]⟩, ⟨#[32, 47, 42, 32, 97, 32, 34, 32, 98, 32, 42, 47]⟩, ⟨#[10, 47, 47, 32, 120, 10]⟩, ⟨#[9, 47, 42, 42, 42, 47]⟩] : List ByteArray).length : Int) rfl rfl h0_84) <| go ?_;exact ⟨rfl, _, _, hm, hst, h_37, rh_9, h_30, hgl, rfl⟩
    refine wskip ?_;exact ⟨rfl, _, 0, hm, hst, h_37, rh_9, h_30, hgl, rfl⟩
   obtain ⟨r_85, hr_86, hm⟩ := bZ hm;refine lcA (c_lex_Scan 5 hr_86 hgl) ?_;rintro _ w_92 ⟨col_94, ra_87, rc_88, rv_90, rfl, hg_93, rh_89, rh_91⟩;refine ⟨_, rfl, ?_⟩;refine lM (.tuple #[(.slice ra_87 r_85.1.length rc_88), rv_90]) <| lV (.slice ra_87 r_85.1.length rc_88) (r_extract rfl rfl) <| lv (v := rv_90) rfl rfl (r_extract rfl rfl) <| lAS rfl <| lv (v := rv_90) rfl rfl (r_assign rfl) <| lnil <| wseq <| wseq ?_;replace h_37 := h_37.gr hg_93;replace rh_9 := rh_9.gr hg_93;replace hgl := hgl.gr hg_93;replace hst := hst.grow hg_93;refine Wp.cutK [10, 13, 9, 1000000] (fun f w_107 => ∃ col_108 v_109, m_l06_LexApart_J6 N starts_34 anew_39 r_85 v_109 = some r ∧ St w0 (col0 col) col_108 w_107 ∧ Own (Rep.int .i64) 3 3 col_108 w_107 a_35 cap_36 starts_34 ∧ Own (Rep.pair (Rep.int .i8) (Rep.pair Rep.str (Rep.pair (Rep.int .i64) (Rep.int .i64)))) 38 5 col_108 w_107 ra_87 rc_88 r_85.1 ∧ Gl (.iface 146 (.agg #[.pointer (some ⟨4, 30, none⟩)])) col_108 w_107 ∧ [97].map f = [.bool v_109]) ?_ ?_
   ·intro f w_107 hJ;obtain ⟨col_108, v_109, hm, hst, h_37, rh_89, hgl, hs⟩ := hJ;rw [m_l06_LexApart_J6.eq_1] at hm;refine .lL [97] hs ?_;refine wcb hm (fun hb hm => go ?_) fun hb hm => go ?_
    ·cases hm;exact ⟨rfl, rfl, hst.below⟩
    refine wloopK [10, 13, 9, 1000000] (fun n f w_111 => ∃ col_112 i_113 n_110, n_110 = n ∧ m_l06_LexApart_L2 N starts_34 anew_39 r_85 n_110 i_113 = some r ∧ St w0 (col0 col) col_112 w_111 ∧ Own (Rep.int .i64) 3 3 col_112 w_111 a_35 cap_36 starts_34 ∧ Own (Rep.pair (Rep.int .i8) (Rep.pair Rep.str (Rep.pair (Rep.int .i64) (Rep.int .i64)))) 38 5 col_112 w_111 ra_87 rc_88 r_85.1 ∧ Gl (.iface 146 (.agg #[.pointer (some ⟨4, 30, none⟩)])) col_112 w_111 ∧ [14].map f = [.int .i64 i_113]) N ⟨_, 0, _, rfl, hm, hst, h_37, rh_89, hgl, rfl⟩ ?_;clear hm; intro n f w_111 hI;obtain ⟨col_112, i_113, n_110, hn, hm, hst, h_37, rh_89, hgl, hs⟩ := hI;subst hn;refine .lL [14] hs ?_
    cases n_110 with
    | zero => rw [m_l06_LexApart_L2.eq_1] at hm; cases hm
    | succ n_110 =>
     rw [m_l06_LexApart_L2.eq_2] at hm;refine go ?_;refine wcb hm (fun hb hm => go ?_) fun hb hm => go ?_
     ·refine wloopK [10, 13, 14, 9, 1000000] (fun n f w_115 => ∃ col_116 line_117 col_118 k_119 n_114, n_114 = n ∧ m_l06_LexApart_L3 N starts_34 anew_39 r_85 i_113 (m_l06_LexApart_L2 N starts_34 anew_39 r_85 n_110) n_114 line_117 col_118 k_119 = some r ∧ St w0 (col0 col) col_116 w_115 ∧ Own (Rep.int .i64) 3 3 col_116 w_115 a_35 cap_36 starts_34 ∧ Own (Rep.pair (Rep.int .i8) (Rep.pair Rep.str (Rep.pair (Rep.int .i64) (Rep.int .i64)))) 38 5 col_116 w_115 ra_87 rc_88 r_85.1 ∧ Gl (.iface 146 (.agg #[.pointer (some ⟨4, 30, none⟩)])) col_116 w_115 ∧ [15, 16, 17].map f = [.int .i64 line_117, .int .i64 col_118, .int .i64 k_119]) N ⟨_, 1, 1, 0, _, rfl, hm, hst, h_37, rh_89, hgl, rfl⟩ ?_;clear hm; intro n f w_115 hI;obtain ⟨col_116, line_117, col_118, k_119, n_114, hn, hm, hst, h_37, rh_89, hgl, hs⟩ := hI;subst hn;refine .lL [15, 16, 17] hs ?_
      cases n_114 with
      | zero => rw [m_l06_LexApart_L3.eq_1] at hm; cases hm
      | succ n_114 =>
       rw [m_l06_LexApart_L3.eq_2] at hm;refine go ?_;obtain ⟨e_120, hj_121, hm⟩ := bZ hm;refine lI hj_121 (h_37.addr hj_121) <| lW (h_37.atInt hj_121) ?_;refine go ?_;refine wcb hm (fun hb hm => ?_) fun hb hm => ?_
       ·refine wskip <| wseq ?_;refine Wp.cutK [10, 13, 14, 17, 9, 1000000] (fun f w_122 => ∃ col_123 line_124 col_125, m_l06_LexApart_J7 k_119 (m_l06_LexApart_L3 N starts_34 anew_39 r_85 i_113 (m_l06_LexApart_L2 N starts_34 anew_39 r_85 n_110) n_114) line_124 col_125 = some r ∧ St w0 (col0 col) col_123 w_122 ∧ Own (Rep.int .i64) 3 3 col_123 w_122 a_35 cap_36 starts_34 ∧ Own (Rep.pair (Rep.int .i8) (Rep.pair Rep.str (Rep.pair (Rep.int .i64) (Rep.int .i64)))) 38 5 col_123 w_122 ra_87 rc_88 r_85.1 ∧ Gl (.iface 146 (.agg #[.pointer (some ⟨4, 30, none⟩)])) col_123 w_122 ∧ [15, 16].map f = [.int .i64 line_124, .int .i64 col_125]) ?_ ?_
        ·intro f w_122 hJ;obtain ⟨col_123, line_124, col_125, hm, hst, h_37, rh_89, hgl, hs⟩ := hJ;rw [m_l06_LexApart_J7.eq_1] at hm;refine .lL [15, 16] hs <| go ?_;exact ⟨n_114, by omega, rfl, ⟨_, _, _, _, _, rfl, hm, hst, h_37, rh_89, hgl, rfl⟩⟩
        refine go ?_;obtain ⟨e_126, hj_127, hm⟩ := bZ hm;refine lV (.int .u8 e_126) (r_indexS (s := anew_39) Tryz.underlying9 rfl rfl hj_127) <| go ?_;refine wcb hm (fun hb hm => go ?_) fun hb hm => ?_
        ·exact ⟨rfl, _, _, 1, hm, hst, h_37, rh_89, hgl, rfl⟩
        refine wskip ?_;exact ⟨rfl, _, _, _, hm, hst, h_37, rh_89, hgl, rfl⟩
       refine wexit (inB_hit ?_);refine wseq ?_;refine Wp.cutK [10, 13, 14, 9, 1000000] (fun f w_166 => ∃ col_167 v_168, m_l06_LexApart_J8 i_113 (m_l06_LexApart_L2 N starts_34 anew_39 r_85 n_110) v_168 = some r ∧ St w0 (col0 col) col_167 w_166 ∧ Own (Rep.int .i64) 3 3 col_167 w_166 a_35 cap_36 starts_34 ∧ Own (Rep.pair (Rep.int .i8) (Rep.pair Rep.str (Rep.pair (Rep.int .i64) (Rep.int .i64)))) 38 5 col_167 w_166 ra_87 rc_88 r_85.1 ∧ Gl (.iface 146 (.agg #[.pointer (some ⟨4, 30, none⟩)])) col_167 w_166 ∧ [136].map f = [.bool v_168]) ?_ ?_
       ·intro f w_166 hJ;obtain ⟨col_167, v_168, hm, hst, h_37, rh_89, hgl, hs⟩ := hJ;rw [m_l06_LexApart_J8.eq_1] at hm;refine .lL [136] hs ?_;refine wcb hm (fun hb hm => go ?_) fun hb hm => go ?_
        ·cases hm;exact ⟨rfl, rfl, hst.below⟩
        exact ⟨n_110, by omega, rfl, ⟨_, _, _, rfl, hm, hst, h_37, rh_89, hgl, rfl⟩⟩
       refine go ?_;obtain ⟨e_169, hj_170, hm⟩ := bZ hm;refine lI hj_170 (rh_89.addr hj_170) <| lFa (sptr_addr (rh_89.addr hj_170)) ?_;obtain ⟨_, hr_171, hA_172⟩ := rh_89.atN hj_170;obtain ⟨_, _, rfl, hp_173, hp_174⟩ := hr_171.parts;obtain rfl := hp_173.int;obtain ⟨_, _, rfl, hp_175, hp_176⟩ := hp_174.parts;obtain rfl := hp_175.str;obtain ⟨_, _, rfl, hp_177, hp_178⟩ := hp_176.parts;obtain rfl := hp_177.int;obtain rfl := hp_178.int;refine lW ((hA_172).nth (q := 2) rfl) <| go ?_;refine bcb hm (fun hg_179 hm => go ?_) fun hg_179 hm => go ?_
       ·refine lV (.bool true) (r_pickT (congrArg Value.bool hg_179) rfl) <| lnil ?_;exact ⟨rfl, _, _, hm, hst, h_37, rh_89, hgl, rfl⟩
       refine lI hj_170 (rh_89.addr hj_170) ?_;refine go ?_;refine lFa (sptr_addr (rh_89.addr hj_170)) ?_;refine go ?_;obtain ⟨_, hr_180, hA_181⟩ := rh_89.atN hj_170;obtain ⟨_, _, rfl, hp_182, hp_183⟩ := hr_180.parts;obtain rfl := hp_182.int;obtain ⟨_, _, rfl, hp_184, hp_185⟩ := hp_183.parts;obtain rfl := hp_184.str;obtain ⟨_, _, rfl, hp_186, hp_187⟩ := hp_185.parts;obtain rfl := hp_186.int;obtain rfl := hp_187.int;refine lW ((hA_181).nth (q := 3) rfl) <| go ?_;refine lV (.bool (!decide (e_169.2.2.2 = col_118))) (r_pickF (congrArg Value.bool hg_179) rfl) <| lnil ?_;exact ⟨rfl, _, _, hm, hst, h_37, rh_89, hgl, rfl⟩
     obtain ⟨e_188, hj_189, hm⟩ := bZ hm;refine lI hj_189 (rh_89.addr hj_189) <| lFa (sptr_addr (rh_89.addr hj_189)) ?_;obtain ⟨_, hr_190, hA_191⟩ := rh_89.atN hj_189;obtain ⟨_, _, rfl, hp_192, hp_193⟩ := hr_190.parts;obtain rfl := hp_192.int;obtain ⟨_, _, rfl, hp_194, hp_195⟩ := hp_193.parts;obtain rfl := hp_194.str;obtain ⟨_, _, rfl, hp_196, hp_197⟩ := hp_195.parts;obtain rfl := hp_196.int;obtain rfl := hp_197.int;refine lW ((hA_191).nth (q := 0) rfl) <| go ?_;cases hm;exact ⟨rfl, rfl, hst.below⟩
   refine go ?_;refine bcb hm (fun hg_198 hm => go ?_) fun hg_198 hm => go ?_
   ·refine lV (.bool true) (r_pickT (congrArg Value.bool hg_198) rfl) <| lMB rfl <| lP 92 rfl rfl <| lP 92 rfl rfl <| lP 92 rfl rfl <| lP 92 rfl rfl <| lV (.bool true) (r_pickT rfl rfl) <| lnil ?_;exact ⟨rfl, _, _, hm, hst, h_37, rh_89, hgl, rfl⟩
   refine lv (v := rv_90) rfl rfl (r_move rfl) <| go ?_;refine lV (.bool r_85.2.isSome) (r_neqE rh_91 Tryz.underlying30 rfl) <| lV (.bool r_85.2.isSome) (r_pickF (congrArg Value.bool hg_198) rfl) <| lMB rfl ?_;refine bcb hm (fun hg_199 hm => go ?_) fun hg_199 hm => go ?_
   ·refine lV (.bool true) (r_pickT (congrArg Value.bool hg_199) rfl) <| lnil ?_;exact ⟨rfl, _, _, hm, hst, h_37, rh_89, hgl, rfl⟩
   obtain ⟨r_200, hr_201, hm⟩ := bZ hm;refine lcA (c_l06_alike hr_201 ((rh_9.toSlF (Froz.pair (Froz.int .i8) (Froz.pair Froz.str (Froz.pair (Froz.int .i64) (Froz.int .i64))))).froz 5) ((rh_89.froz 1 (by decide)).toSlF (Froz.pair (Froz.int .i8) (Froz.pair Froz.str (Froz.pair (Froz.int .i64) (Froz.int .i64)))))) ?_;rintro _ w_202 ⟨rfl, hg_203⟩;refine ⟨_, rfl, ?_⟩;replace hg_203 : Grow col_94 w_92 col_94 w_202 := .of_below hg_203;refine go ?_;refine lV (.bool (!r_200)) (r_pickF (congrArg Value.bool hg_199) rfl) <| lnil ?_;replace h_37 := h_37.gr hg_203;replace hgl := hgl.gr hg_203;replace rh_89 := rh_89.gr hg_203;replace hst := hst.grow hg_203;exact ⟨rfl, _, _, hm, hst, h_37, rh_89, hgl, rfl⟩
 refine wregion <| lv (v := rv_10) rfl rfl (r_move rfl) <| lV (.bool r_5.2.isSome) (r_neqE rh_11 Tryz.underlying30 rfl) <| lMB rfl ?_;refine bcb hm (fun hg_204 hm => go ?_) fun hg_204 hm => go ?_
 ·refine lV (.bool true) (r_pickT (congrArg Value.bool hg_204) rfl) <| lnil ?_;exact ⟨rfl, _, _, hm, hst, rh_9, rh_11, hgl, rfl⟩
 refine lV (.bool (decide ((r_5.1.length : Int) = 0))) (r_pickF (congrArg Value.bool hg_204) rfl) <| lnil ?_;exact ⟨rfl, _, _, hm, hst, rh_9, rh_11, hgl, rfl⟩
theorem anw_app : ∀ (a b : List TokV) (G : Nat → List Int), anw (a ++ b) G = anw a G ++ anw b fun k => G (k + a.length)
 | [], b, G => rfl
 | x :: a, b, G => by
  rw [List.cons_append, anw, anw_app a b, anw]
  simp only [List.append_assoc, List.length_cons]
  congr 4
theorem anw_pre (l : List TokV) (G : Nat → List Int) (i : Nat) : ∃ r, anw l G = anw (l.take i) G ++ r := by
 refine ⟨anw (l.drop i) fun k => G (k + (l.take i).length), ?_⟩
 rw [← anw_app, List.take_append_drop]
theorem anw_step {l : List TokV} (G : Nat → List Int) {i : Nat} (h : i < l.length) : anw (l.take (i + 1)) G = anw (l.take i) G ++ (wrI l[i] ++ G i) := by
 rw [List.take_add_one, List.getElem?_eq_getElem h]
 have := anw_snoc (l.take i) l[i] G
 rw [List.length_take, Nat.min_eq_left (by omega)] at this
 exact this
abbrev gapB : List ByteArray := [⟨#[32]⟩, ⟨#[10]⟩, ⟨#[9, 13, 32]⟩, ⟨#[32, 47, 42, 32, 97, 32, 34, 32, 98, 32, 42, 47]⟩, ⟨#[10, 47, 47, 32, 120, 10]⟩, ⟨#[9, 47, 42, 42, 42, 47]⟩]
theorem gapB_mem : ∀ b ∈ gapB, sints b ∈ gapL ∧ b.size ≤ 12 := by
 intro b hb
 simp only [List.mem_cons, List.not_mem_nil, or_false] at hb
 rcases hb with rfl | rfl | rfl | rfl | rfl | rfl <;> exact ⟨by decide, by decide⟩
def gpI (bt : List Int) (i : Nat) : Int := match bt[i]? with
 | some e => if Int.tmod e 6 < 0 then Int.tmod e 6 + 6 else Int.tmod e 6
 | none => 0
theorem gpI_rng (bt : List Int) (i : Nat) : 0 ≤ gpI bt i ∧ gpI bt i < 6 := by
 rw [gpI]
 split
 ·rename_i e he
  have h1 := Int.tmod_lt_of_pos e (show (0 : Int) < 6 by decide)
  have h2 : -6 < Int.tmod e 6 := by
   have := Int.lt_tmod_of_pos e (show (0 : Int) < 6 by decide)
   omega
  split <;> omega
 ·omega
def gpB (bt : List Int) (i : Nat) : ByteArray := gapB.getD (gpI bt i).toNat ⟨#[32]⟩
theorem gpB_at (bt : List Int) (i : Nat) : at? gapB (gpI bt i) = some (gpB bt i) := by
 obtain ⟨h1, h2⟩ := gpI_rng bt i
 have hl : (gpI bt i).toNat < gapB.length := by show _ < 6; omega
 rw [show gpI bt i = (((gpI bt i).toNat : Nat) : Int) by omega, at?_nat, gpB, List.getD_eq_getElem?_getD, List.getElem?_eq_getElem (by simpa using hl)]
 rfl
theorem gpB_mem (bt : List Int) (i : Nat) : gpB bt i ∈ gapB := by
 obtain ⟨h1, h2⟩ := gpI_rng bt i
 have hl : (gpI bt i).toNat < gapB.length := by show _ < 6; omega
 rw [gpB, List.getD_eq_getElem?_getD, List.getElem?_eq_getElem hl]
 exact List.getElem_mem hl
def gpL (bt : List Int) (i : Nat) : List Int := sints (gpB bt i)
theorem gpL_mem (bt : List Int) (k : Nat) : gpL bt k ∈ gapL := (gapB_mem _ (gpB_mem bt k)).1
theorem written_eq {x : TokV} (h : x.1 = 3 → 10 ∉ sints x.2.1) (hz : x.2.1.size ≤ 1048576) : ∃ b, m_l06_written x = some b ∧ sints b = wrI x := by
 rw [m_l06_written, wrI]
 by_cases h3 : x.1 = 3
 ·rw [if_pos (decide_eq_true h3), if_pos h3, m_quote, chk_pos (by omega), if_neg (h h3)]
  exact ⟨_, rfl, quoB_sints x.2.1⟩
 ·rw [if_neg (nd h3), if_neg h3]
  exact ⟨_, rfl, rfl⟩
theorem alike_L1 {N : Nat} {a b : List TokV} (hl : a.length = b.length) (hz : a.length ≤ 33554456) (h : a.map (fun x => (x.1, x.2.1)) = b.map (fun x => (x.1, x.2.1))) : ∀ (f i : Nat), i ≤ a.length → a.length < f + i → m_l06_alike_L1 N a b f (i : Int) = some true
 | 0, i, h1, h2 => by omega
 | f + 1, i, h1, h2 => by
  rw [m_l06_alike_L1.eq_2]
  by_cases hi : i < a.length
  ·have e := congrArg (fun x : List (Int × ByteArray) => x[i]?) h
   simp only [List.getElem?_map, List.getElem?_eq_getElem hi, List.getElem?_eq_getElem (show i < b.length by omega), Option.map_some] at e
   have e := Option.some.inj e
   have e1 : a[i].1 = b[i].1 := congrArg (fun x : Int × ByteArray => x.1) e
   have e2 : a[i].2.1 = b[i].2.1 := congrArg (fun x : Int × ByteArray => x.2) e
   rw [if_pos (decide_eq_true (by omega)), at?_lt hi, Option.bind_some, at?_lt (show i < b.length by omega), Option.bind_some, if_neg (by rw [decide_eq_true e1]; decide), decide_eq_true e2, m_l06_alike_J1, if_neg (by decide), w64 (by omega), show (i : Int) + 1 = ((i + 1 : Nat) : Int) by omega]
   exact alike_L1 hl hz h f (i + 1) (by omega) (by omega)
  ·rw [if_neg (nd (by omega))]
theorem alike_eq {N : Nat} (hN : 33554467 ≤ N) {a b : List TokV} (hz : a.length ≤ 33554456) (h : a.map (fun x => (x.1, x.2.1)) = b.map (fun x => (x.1, x.2.1))) : m_l06_alike N a b = some true := by
 have hl : a.length = b.length := by
  have := congrArg List.length h
  rwa [List.length_map, List.length_map] at this
 rw [m_l06_alike, if_neg (by rw [decide_eq_true (by omega)]; decide)]
 exact alike_L1 hl hz h N 0 (by omega) (by omega)
def stL (l : List TokV) (G : Nat → List Int) (i : Nat) : List Int := (List.range i).map fun j => ((anw (l.take j) G).length : Int)
theorem stL_succ (l : List TokV) (G : Nat → List Int) (i : Nat) : stL l G (i + 1) = stL l G i ++ [((anw (l.take i) G).length : Int)] := by rw [stL, List.range_succ, List.map_append]; rfl
theorem stL_len (l : List TokV) (G : Nat → List Int) (i : Nat) : (stL l G i).length = i := by rw [stL, List.length_map, List.length_range]
theorem stL_at (l : List TokV) (G : Nat → List Int) {i j : Nat} (h : j < i) : at? (stL l G i) (j : Int) = some ((anw (l.take j) G).length : Int) := by
 rw [at?_nat, stL, List.getElem?_map, List.getElem?_range h]; rfl
section
variable {N : Nat} (hN : N = 33554467) {s : ByteArray} (hs : s.size ≤ 33554432) {st : List Int} {r : List TokV × Option FltV}
include hN hs
theorem apart_L3 (kk : Int → Option Bool) {i n : Nat} (hst : at? st (i : Int) = some (n : Int)) (hn : n ≤ s.size) {y : TokV} (hy : at? r.1 (i : Int) = some y) (hp : y.2.2 = plc ((sints s).take n) (1, 1)) (hi : i ≤ 33554456) : ∀ (f k : Nat) (p : Int × Int), p = plc ((sints s).take k) (1, 1) → Bd p k → k ≤ n → n < f + k →
  m_l06_LexApart_L3 N st s r (i : Int) kk f p.1 p.2 (k : Int) = kk ((i + 1 : Nat) : Int)
 | 0, k, p, e, hb, h1, h2 => by omega
 | f + 1, k, p, e, hb, h1, h2 => by
  have hl := sints_len s
  rw [m_l06_LexApart_L3.eq_2, hst, Option.bind_some]
  by_cases hk : k < n
  ·rw [if_pos (decide_eq_true (by omega)), bat_lt (by omega), Option.bind_some]
   have hnx : plc ((sints s).take (k + 1)) (1, 1) = if (sints s)[k]'(by omega) = 10 then (p.1 + 1, 1) else (p.1, p.2 + 1) := by
    rw [List.take_add_one, List.getElem?_eq_getElem (by omega), plc_app, ← e]; rfl
   have hb1 : Bd (if (sints s)[k]'(by omega) = 10 then (p.1 + 1, 1) else (p.1, p.2 + 1)) (k + 1) := Bd.plc (xs := [(sints s)[k]'(by omega)]) hb
   have ih := apart_L3 kk hst hn hy hp hi f (k + 1) _ hnx.symm hb1 (by omega) (by omega)
   rw [← ih]
   obtain ⟨b1, b2, b3, b4⟩ := hb
   by_cases h : (sints s)[k]'(by omega) = 10
   ·rw [if_pos (decide_eq_true h), if_pos h, m_l06_LexApart_J7, w64 (by omega), w64 (by omega)]; rfl
   ·rw [if_neg (nd h), if_neg h, m_l06_LexApart_J7, w64 (by omega), w64 (by omega)]; rfl
  ·have : k = n := by omega
   subst this
   have e1 : y.2.2.1 = p.1 := by rw [hp, e]
   have e2 : y.2.2.2 = p.2 := by rw [hp, e]
   rw [if_neg (nd (by omega)), hy, Option.bind_some, if_neg (by rw [decide_eq_true e1]; decide), decide_eq_true e2, m_l06_LexApart_J8, if_neg (by decide), w64 (by omega)]
   rfl
end
section
variable {N : Nat} (hN : N = 33554467) {t : ByteArray} (ht : t.size ≤ 1048576) {l : List TokV} (h : LexR t 0 (1, 1) l none) (bt : List Int)
include hN ht h
theorem apart_len (G : Nat → List Int) (hG : ∀ k, G k ∈ gapL) : (anw l G).length ≤ 13631500 := by
 have h1 := anw_len h (Nat.zero_le _) G hG
 have h2 := (h.facts (Nat.zero_le _)).1
 omega
theorem apart_end {s : ByteArray} (hs : sints s = anw l (gpL bt)) {st : List Int} (hst : st = stL l (gpL bt) l.length) : ((m_lex_Scan N s).bind fun r_85 => if (!true) = true then (m_l06_LexApart_J6 N st s r_85 true) else (if r_85.2.isSome = true then (m_l06_LexApart_J6 N st s r_85 true) else ((m_l06_alike N l r_85.1).bind fun r_200 => m_l06_LexApart_J6 N st s r_85 (!r_200)))) = some true := by
 subst hst
 have hl := sints_len s
 have hz := apart_len hN ht h (gpL bt) (gpL_mem bt)
 rw [← hs, hl] at hz
 have h2 := (h.facts (Nat.zero_le _)).1
 obtain ⟨l', i1, i2, i3⟩ := anew_lex h (Nat.zero_le _) rfl s (gpL bt) 0 (1, 1) [] (gpL_mem bt) (.inl rfl) (by rw [List.drop_zero, hs]; rfl) (Nat.zero_le _)
 have hll : l'.length = l.length := by
  have := congrArg List.length i2
  rwa [List.length_map, List.length_map] at this
 obtain ⟨x, x1, x2⟩ := (i1.facts (Nat.zero_le _)).2.1 rfl
 have hpos : 0 < l'.length := by
  cases l' with
  | nil => cases x1
  | cons a b => simp
 rw [lex_scan_eq (N := N) (by omega) (by omega) i1, Option.bind_some, if_neg (by decide)]
 show (if (none : Option FltV).isSome = true then _ else _) = _
 rw [if_neg (by decide)]
 show ((m_l06_alike N l l').bind _) = _
 rw [alike_eq (by omega) (by omega) i2.symm, Option.bind_some, m_l06_LexApart_J6, if_neg (by decide)]
 have loop : ∀ (g i : Nat), i < l'.length → l'.length ≤ g + i → m_l06_LexApart_L2 N (stL l (gpL bt) l.length) s (scanR l' none) g (i : Int) = some true := by
  intro g
  induction g with
  | zero => intro i h1 h2; omega
  | succ g ih =>
   intro i h1 h2
   have hw : IntKind.i64.wrap ((l'.length : Int) - 1) = ((l'.length - 1 : Nat) : Int) := by rw [w64 (by omega)]; omega
   rw [m_l06_LexApart_L2.eq_2]
   show (if (decide ((i : Int) < IntKind.i64.wrap ((l'.length : Int) - 1))) = true then _ else ((at? l' (IntKind.i64.wrap ((l'.length : Int) - 1))).bind fun e_188 => some (decide (e_188.1 = 0)))) = _
   rw [hw]
   by_cases hi : i < l'.length - 1
   ·rw [if_pos (decide_eq_true (by omega))]
    obtain ⟨r, hr⟩ := anw_pre l (gpL bt) i
    have hpre : (sints s).take (anw (l.take i) (gpL bt)).length = anw (l.take i) (gpL bt) := by rw [hs, hr, List.take_left]
    have hle : (anw (l.take i) (gpL bt)).length ≤ s.size := by
     rw [← hl, hs, hr, List.length_append]; omega
    have hy := i3 i l'[i] (by omega) (List.getElem?_eq_getElem (by omega))
    rw [List.nil_append] at hy
    have := apart_L3 (N := N) hN (by omega) (st := stL l (gpL bt) l.length) (r := scanR l' none) (m_l06_LexApart_L2 N (stL l (gpL bt) l.length) s (scanR l' none) g) (i := i) (stL_at l (gpL bt) (by omega)) hle (y := l'[i]) (show at? l' (i : Int) = some l'[i] from at?_lt (by omega)) (by rw [hy, hpre]) (by omega) N 0 (1, 1) (by rw [List.take_zero]; rfl) ⟨by decide, by decide, by decide, by decide⟩ (by omega) (by omega)
    rw [show (0 : Int) = ((0 : Nat) : Int) from rfl, this]
    exact ih (i + 1) (by omega) (by omega)
   ·rw [if_neg (nd (by omega)), at?_lt (by omega), Option.bind_some]
    rw [List.getLast?_eq_getElem?, List.getElem?_eq_getElem (by omega)] at x1
    rw [Option.some.inj x1, decide_eq_true x2]
 exact loop N 0 hpos (by omega)
theorem apart_L1 (hb : ∀ e ∈ bt, -9223372036854775808 ≤ e ∧ e ≤ 9223372036854775807) : ∀ (f i : Nat) (s : ByteArray), sints s = anw (l.take i) (gpL bt) → i ≤ l.length → l.length < f + i →
  m_l06_LexApart_L1 N bt true (scanR l none) f (stL l (gpL bt) i) (i : Int) s = some true
 | 0, i, s, hs, h1, h2 => by omega
 | f + 1, i, s, hs, h1, h2 => by
  have hz := apart_len hN ht h (gpL bt) (gpL_mem bt)
  have hll := (h.facts (Nat.zero_le _)).1
  rw [m_l06_LexApart_L1.eq_2]
  show (if (decide ((i : Int) < (l.length : Int))) = true then _ else _) = _
  by_cases hi : i < l.length
  ·obtain ⟨r, hr⟩ := anw_pre l (gpL bt) (i + 1)
   have hst := anw_step (gpL bt) hi
   have hzz : (anw (l.take (i + 1)) (gpL bt)).length ≤ 13631500 := by
    rw [hr, List.length_append] at hz; omega
   rw [hst, List.length_append, List.length_append, ← hs, sints_len] at hzz
   have hq := lex_nonl h (Nat.zero_le _) l[i] (List.getElem_mem hi)
   obtain ⟨b, b1, b2⟩ := written_eq hq.1 (by omega)
   have hbz : b.size = (wrI l[i]).length := by rw [← b2, sints_len]
   have hgz : (gpL bt i).length = (gpB bt i).size := by rw [gpL, sints_len]
   have key : m_l06_LexApart_J5 (scanR l none) (stL l (gpL bt) i) (i : Int) s (m_l06_LexApart_L1 N bt true (scanR l none) f) (gpI bt i) = some true := by
    rw [m_l06_LexApart_J5, chk_pos (by rw [stL_len]; simp only [List.length_cons, List.length_nil, maxLen]; omega)]
    show ((at? l (i : Int)).bind _) = _
    rw [at?_lt hi, Option.bind_some, b1, Option.bind_some, chk_pos (by simp only [maxLen]; omega), gpB_at, Option.bind_some, chk_pos (by rw [ByteArray.size_append]; simp only [maxLen]; omega), m_l06_LexApart_J3, w64 (by omega)]
    have e : (s.size : Int) = ((anw (l.take i) (gpL bt)).length : Int) := by rw [← hs, sints_len]
    rw [e, ← stL_succ, show (i : Int) + 1 = ((i + 1 : Nat) : Int) by omega]
    exact apart_L1 hb f (i + 1) _ (by rw [sints_app, sints_app, hs, b2, hst, List.append_assoc]; rfl) (by omega) (by omega)
   rw [if_pos (decide_eq_true (by omega))]
   by_cases hbi : i < bt.length
   ·have hg : gpI bt i = if Int.tmod bt[i] 6 < 0 then Int.tmod bt[i] 6 + 6 else Int.tmod bt[i] 6 := by rw [gpI, List.getElem?_eq_getElem hbi]
    obtain ⟨g1, g2⟩ := gpI_rng bt i
    rw [if_pos (decide_eq_true (by omega)), at?_lt hbi, Option.bind_some]
    refine (chk_pos (by decide)).trans ?_
    show m_l06_LexApart_J4 _ _ _ _ _ (Int.tmod bt[i] 6) = _
    rw [m_l06_LexApart_J4]
    by_cases hneg : Int.tmod bt[i] 6 < 0
    ·rw [if_pos hneg] at hg
     rw [if_pos (decide_eq_true hneg)]
     show m_l06_LexApart_J5 _ _ _ _ _ (IntKind.i64.wrap (Int.tmod bt[i] 6 + 6)) = _
     rw [w64 (by omega), ← hg]; exact key
    ·rw [if_neg hneg] at hg
     rw [if_neg (nd hneg), ← hg]; exact key
   ·have hg : gpI bt i = 0 := by rw [gpI, List.getElem?_eq_none (by omega)]
    rw [if_neg (nd (by omega)), m_l06_LexApart_J4, if_neg (by decide)]
    rw [hg] at key
    exact key
  ·have : i = l.length := by omega
   subst this
   rw [if_neg (nd (by omega))]
   rw [List.take_length] at hs
   exact apart_end hN ht h bt hs rfl
end
theorem lexApart_true (t : ByteArray) (bt : List Int) (hb : ∀ e ∈ bt, -9223372036854775808 ≤ e ∧ e ≤ 9223372036854775807) : m_l06_LexApart 33554467 t bt = some true := by
 rw [m_l06_LexApart, awake_true, Option.bind_some]
 by_cases hs : 1048576 < t.size
 ·rw [if_pos (decide_eq_true (by omega))]
 ·obtain ⟨l, f, h⟩ := lexR_ex t t.size 0 (1, 1) (by omega) (by omega)
  obtain ⟨e1, e2⟩ := scanR_err h
  rw [if_neg (nd (by omega)), lex_scan_eq (N := 33554467) (by omega) (by omega) h, Option.bind_some, e1]
  cases f with
  | some e =>
   rw [if_pos (by rfl), m_l06_LexApart_J1, if_pos rfl, if_pos rfl, e1]; rfl
  | none =>
   rw [if_neg (by decide)]
   have hpos : l ≠ [] := by
    obtain ⟨x, x1, _⟩ := (h.facts (Nat.zero_le _)).2.1 rfl
    intro e; rw [e] at x1; cases x1
   have hl0 : ¬ (((scanR l none).1.length : Int) = 0) := by
    show ¬ ((l.length : Int) = 0)
    have := List.length_pos_iff.2 hpos
    omega
   rw [decide_eq_false hl0, m_l06_LexApart_J1, if_neg (by decide)]
   have hll := (h.facts (Nat.zero_le _)).1
   exact apart_L1 rfl (by omega) h bt hb 33554467 0 ⟨#[]⟩ (by rw [List.take_zero]; rfl) (Nat.zero_le _) (by omega)

end Go.Proofs.YtnfegieaaaigmaaGreatDoor
