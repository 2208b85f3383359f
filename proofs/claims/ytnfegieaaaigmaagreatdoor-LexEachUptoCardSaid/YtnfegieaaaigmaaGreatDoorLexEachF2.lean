/-
  What functions of the program compute, as plain Lean functions (m_..), and proofs that they compute it (c_..). Printed by a program of the author; no conditions.
-/
import Derived.Test.YtnfegieaaaigmaaGreatDoorLexEachBFloat
import Derived.Test.YtnfegieaaaigmaaGreatDoorProg
import Derived.Test.YtnfegieaaaigmaaGreatDoorLexEachBAsP
import Derived.Test.YtnfegieaaaigmaaGreatDoorLexEachBBrief
import Derived.Test.YtnfegieaaaigmaaGreatDoorLexEachBEq4
import Derived.Test.YtnfegieaaaigmaaGreatDoorLexEachBErr
import Derived.Test.YtnfegieaaaigmaaGreatDoorLexEachBQuoP
import Derived.Test.YtnfegieaaaigmaaGreatDoorLexEachF1
set_option linter.unusedVariables false
set_option linter.unusedSectionVars false
set_option maxRecDepth 100000
set_option maxHeartbeats 2000000
namespace Go.Proofs.YtnfegieaaaigmaaGreatDoor
open Go Go.RowKit

/-! ### what the library finds -/
def bi (b : UInt8) : Int := (b.toNat : Int)
theorem bi_inj {a b : UInt8} : bi a = bi b ↔ a = b := ⟨fun h => UInt8.toNat_inj.1 (Int.ofNat.inj h), fun h => by rw [h]⟩
theorem pref2_eq (s : ByteArray) (a b : UInt8) : m_pref s ⟨#[a, b]⟩ = some (decide ((sints s)[0]? = some (bi a) ∧ (sints s)[1]? = some (bi b))) := by
 rw [m_pref, sints]
 show some (Lib.hasPrefix s.data.toList [a, b]) = _
 generalize s.data.toList = L
 congr 1
 match L with
 | [] => rfl
 | [x] => simp [Lib.hasPrefix, List.isPrefixOf]
 | x :: y :: r =>
  simp only [Lib.hasPrefix, List.isPrefixOf, List.map_cons, List.getElem?_cons_zero, List.getElem?_cons_succ, Option.some.injEq, Bool.and_true]
  rw [Bool.eq_iff_iff, Bool.and_eq_true, beq_iff_eq, beq_iff_eq, decide_eq_true_iff]
  exact ⟨fun h => ⟨by rw [h.1]; rfl, by rw [h.2]; rfl⟩, fun h => ⟨(bi_inj.1 h.1).symm, (bi_inj.1 h.2).symm⟩⟩
theorem pref_sl (s : ByteArray) : m_pref s ⟨#[47, 47]⟩ = some (decide ((sints s)[0]? = some 47 ∧ (sints s)[1]? = some 47)) := pref2_eq s 47 47
theorem pref_st (s : ByteArray) : m_pref s ⟨#[47, 42]⟩ = some (decide ((sints s)[0]? = some 47 ∧ (sints s)[1]? = some 42)) := pref2_eq s 47 42
theorem idx_nl : ∀ (L : List UInt8), Lib.indexByte L 10 = if runS nlB (L.map bi) < L.length then ((runS nlB (L.map bi) : Nat) : Int) else -1
 | [] => rfl
 | b :: L => by
  rw [Lib.indexByte, List.map_cons, runS_cons, idx_nl L, List.length_cons]
  by_cases h : b = 10
  ·subst h; rw [if_pos (by decide), if_neg (show ¬ nlB (bi 10) = true by decide), if_pos (by omega)]; rfl
  ·have hb : nlB (bi b) = true := by
    rw [nlB, decide_eq_false]
    ·rfl
    ·intro e; exact h (bi_inj.1 (e.trans (show (10 : Int) = bi 10 from rfl)))
   rw [if_neg (by simpa using h), if_pos hb]
   by_cases hr : runS nlB (L.map bi) < L.length
   ·rw [if_pos hr, if_neg (by simp <;> omega), if_pos (show runS nlB (L.map bi) + 1 < L.length + 1 by omega)]; omega
   ·rw [if_neg hr, if_pos (by decide), if_neg (show ¬ runS nlB (L.map bi) + 1 < L.length + 1 by omega)]
theorem idxb_nl (s : ByteArray) : m_idxb s 10 = some (if runS nlB (sints s) < s.size then ((runS nlB (sints s) : Nat) : Int) else -1) := by
 rw [m_idxb]
 have := idx_nl s.data.toList
 rw [Array.length_toList] at this
 exact congrArg some this
theorem idx_mem : ∀ (L : List UInt8) (b : UInt8), decide (0 ≤ Lib.indexByte L b) = decide (b ∈ L)
 | [], b => by simp [Lib.indexByte]
 | c :: L, b => by
  rw [Lib.indexByte]
  by_cases h : c = b
  ·subst h; simp
  ·have ih := idx_mem L b
   have hg := Lib.indexByte_ge L b
   rw [if_neg (by simpa using h)]
   have h2 : (b ∈ c :: L) ↔ b ∈ L := ⟨fun e => (List.mem_cons.1 e).resolve_left (fun e => h e.symm), List.mem_cons_of_mem _⟩
   rw [decide_eq_decide.2 h2, ← ih]
   by_cases e : Lib.indexByte L b = -1
   ·rw [if_pos (by rw [e]; rfl), e]
   ·rw [if_neg (by simpa using e)]
    exact decide_eq_decide.2 ⟨fun _ => by omega, fun _ => by omega⟩
theorem idxb_mem (s : ByteArray) (c : Int) (hc : 0 ≤ c ∧ c < 256) : ∃ r, m_idxb s c = some r ∧ decide (0 ≤ r) = decide (c ∈ sints s) := by
 refine ⟨_, rfl, ?_⟩
 rw [idx_mem]
 have e : bi c.toNat.toUInt8 = c := by
  show ((c.toNat.toUInt8.toNat : Nat) : Int) = c
  rw [UInt8.toNat_ofNat']
  omega
 refine decide_eq_decide.2 ⟨fun h => ?_, fun h => ?_⟩
 ·rw [← e]; exact List.mem_map_of_mem h
 ·obtain ⟨b, hb, h2⟩ := List.mem_map.1 h
  have : b = c.toNat.toUInt8 := bi_inj.1 (by rw [e]; exact h2)
  rwa [← this]
theorem idxb_blk (c : Int) (hc : 0 ≤ c ∧ c < 256) : ∃ r, m_idxb ⟨#[32, 9, 10, 13]⟩ c = some r ∧ decide (0 ≤ r) = blkB c := idxb_mem _ c hc
theorem idxb_sgn (c : Int) (hc : 0 ≤ c ∧ c < 256) : ∃ r, m_idxb ⟨#[123, 125, 40, 41, 91, 93, 44, 59, 124, 61, 43, 45, 42, 47]⟩ c = some r ∧ decide (0 ≤ r) = sgnB c := idxb_mem _ c hc
theorem head_rng (s : ByteArray) : 0 ≤ (sints s).headD 0 ∧ (sints s).headD 0 < 256 := by
 cases hc : sints s with
 | nil => decide
 | cons c l => exact sints_rng (s := s) (by rw [hc]; exact List.mem_cons_self)
theorem idx_cls : ∀ (L : List UInt8), Lib.index L [42, 47] = match clsS (L.map bi) with | none => -1 | some k => (k : Int) - 2
 | [] => rfl
 | b :: L => by
  rw [Lib.index, List.map_cons, clsS, idx_cls L]
  have hp : (([42, 47] : List UInt8).isPrefixOf (b :: L) = true) ↔ (bi b = 42 ∧ (L.map bi)[0]? = some 47) := by
   cases L with
   | nil => simp [List.isPrefixOf]
   | cons d r =>
    simp only [List.isPrefixOf, List.map_cons, List.getElem?_cons_zero, Option.some.injEq, Bool.and_true]
    rw [Bool.and_eq_true, beq_iff_eq, beq_iff_eq]
    exact ⟨fun h => ⟨by rw [← h.1]; rfl, by rw [← h.2]; rfl⟩, fun h => ⟨(bi_inj.1 (h.1.trans (show (42 : Int) = bi 42 from rfl))).symm, (bi_inj.1 (h.2.trans (show (47 : Int) = bi 47 from rfl))).symm⟩⟩
  by_cases h : bi b = 42 ∧ (L.map bi)[0]? = some 47
  ·rw [if_pos (hp.2 h), if_pos h]; rfl
  ·rw [if_neg (fun e => h (hp.1 e)), if_neg h]
   cases hc : clsS (L.map bi) with
   | none => rfl
   | some k =>
    have := clsS_le _ _ hc
    simp only [Option.map_some]
    rw [if_neg (by simp; omega)]
    show (k : Int) - 2 + 1 = ((k + 1 : Nat) : Int) - 2
    omega
theorem idx_eq (s : ByteArray) (hs : s.size ≤ 33554432) : m_idx s ⟨#[42, 47]⟩ = some (match clsS (sints s) with | none => -1 | some k => (k : Int) - 2) := by
 rw [m_idx, chk_pos (by omega)]
 exact congrArg some (idx_cls _)
/-! ### passing over bytes -/
def plc (xs : List Int) (p : Int × Int) : Int × Int := xs.foldl (fun p x => if x = 10 then (p.1 + 1, 1) else (p.1, p.2 + 1)) p
theorem plc_cons (x : Int) (xs : List Int) (p : Int × Int) : plc (x :: xs) p = plc xs (if x = 10 then (p.1 + 1, 1) else (p.1, p.2 + 1)) := rfl
theorem plc_app (a b : List Int) (p : Int × Int) : plc (a ++ b) p = plc b (plc a p) := List.foldl_append
def Bd (p : Int × Int) (k : Nat) : Prop := 0 ≤ p.1 ∧ p.1 ≤ (k : Int) + 1 ∧ 0 ≤ p.2 ∧ p.2 ≤ (k : Int) + 1
theorem Bd.plc : ∀ {xs : List Int} {p : Int × Int} {k : Nat}, Bd p k → Bd (plc xs p) (k + xs.length)
 | [], p, k, h => h
 | x :: xs, p, k, h => by
  rw [plc_cons, List.length_cons, show k + (xs.length + 1) = (k + 1) + xs.length by omega]
  refine Bd.plc ?_
  obtain ⟨h1, h2, h3, h4⟩ := h
  split <;> refine ⟨?_, ?_, ?_, ?_⟩ <;> dsimp only <;> omega
theorem pass_L1 (n : Int) (text : ByteArray) (a : Int) : ∀ (xs : List Int) (p : Int × Int) (k : Nat), Bd p k → k + xs.length ≤ 1099511627776 →
  m_lex_reader_pass_L1 n xs text a p.1 p.2 = some (text, IntKind.i64.wrap (a + n), (plc xs p).1, (plc xs p).2)
 | [], p, k, _, _ => by rw [m_lex_reader_pass_L1.eq_1]; rfl
 | x :: xs, p, k, hb, hk => by
  rw [List.length_cons] at hk
  have hb1 : Bd (if x = 10 then (p.1 + 1, 1) else (p.1, p.2 + 1)) (k + 1) := Bd.plc (xs := [x]) hb
  have ih := pass_L1 n text a xs _ (k + 1) hb1 (by omega)
  obtain ⟨h1, h2, h3, h4⟩ := hb
  rw [m_lex_reader_pass_L1.eq_2, plc_cons, ← ih]
  by_cases h : x = 10
  ·rw [if_pos (decide_eq_true h), if_pos h, m_lex_reader_pass_J1, w64 (by omega)]
  ·rw [if_neg (nd h), if_neg h, m_lex_reader_pass_J1, w64 (by omega)]
section
variable {N : Nat} {t : ByteArray} (ht : t.size ≤ 33554432)
include ht
theorem pass_eq {a n : Nat} {p : Int × Int} (hb : Bd p a) (hn : a + n ≤ t.size) :
  m_lex_reader_pass (t, (a : Int), p.1, p.2) (n : Int) = some (t, ((a + n : Nat) : Int), (plc (((sints t).drop a).take n) p).1, (plc (((sints t).drop a).take n) p).2) := by
 have e : sints (t.extract a (a + n)) = ((sints t).drop a).take n := by rw [sints_extract, List.drop_take]; congr 1; omega
 have hz : (t.extract a (a + n)).size = n := by rw [← sints_len, e, List.length_take, List.length_drop, sints_len]; omega
 rw [m_lex_reader_pass]
 dsimp only
 rw [w64 (by omega), chk_pos (by omega), show Int.toNat (a : Int) = a from rfl, show Int.toNat ((a : Int) + (n : Int)) = a + n by omega, chk_pos (by rw [hz]; simp only [maxLen]; omega), e]
 rw [pass_L1 (n : Int) t (a : Int) _ p a hb (by rw [← e, sints_len, hz]; omega), w64 (by omega)]
 rfl
end
inductive BlR (t : ByteArray) : Nat → Int × Int → Bool → Nat → Int × Int → Prop
 | fin {a p} : t.size = a → BlR t a p true a p
 | done {a p} : a < t.size → skS ((sints t).drop a) = some 0 → BlR t a p true a p
 | opn {a p} : a < t.size → skS ((sints t).drop a) = none → BlR t a p false a p
 | skip {a p k ok a' p'} : a < t.size → skS ((sints t).drop a) = some k → 0 < k → a + k ≤ t.size → BlR t (a + k) (plc (((sints t).drop a).take k) p) ok a' p' → BlR t a p ok a' p'
theorem BlR.le {t : ByteArray} {a a' : Nat} {p p' : Int × Int} {ok : Bool} (h : BlR t a p ok a' p') : a' ≤ t.size ∧ a ≤ a' ∧ (Bd p a → Bd p' a') := by
 induction h with
 | fin h => exact ⟨by omega, Nat.le_refl _, id⟩
 | done h _ => exact ⟨by omega, Nat.le_refl _, id⟩
 | opn h _ => exact ⟨by omega, Nat.le_refl _, id⟩
 | @skip a p k ok a' p' h1 h2 h3 h4 _ ih =>
  refine ⟨ih.1, by omega, fun hb => ih.2.2 ?_⟩
  have := hb.plc (xs := ((sints t).drop a).take k)
  rwa [List.length_take, List.length_drop, sints_len, Nat.min_eq_left (by omega)] at this
section
variable {N : Nat} {t : ByteArray} (ht : t.size ≤ 33554432)
include ht
theorem blanks_L1 {a a' : Nat} {p p' : Int × Int} {ok : Bool} (h : BlR t a p ok a' p') (hb : Bd p a) : ∀ f, t.size < f + a → m_lex_reader_blanks_L1 N f t (a : Int) p.1 p.2 = some (ok, (t, (a' : Int), p'.1, p'.2)) := by
 induction h with
 | @fin a p h =>
  intro f hf
  obtain ⟨f, rfl⟩ : ∃ g, f = g + 1 := ⟨f - 1, by omega⟩
  have he : t.extract a t.size = ⟨#[]⟩ := ext_eq (by rw [sints_suf, List.drop_eq_nil_of_le (by rw [sints_len]; omega)]; rfl)
  rw [m_lex_reader_blanks_L1.eq_2, chk_pos (by omega), show Int.toNat (a : Int) = a from rfl, show Int.toNat (t.size : Int) = t.size from rfl, if_pos (decide_eq_true he)]
 | @done a p h1 h2 =>
  intro f hf
  obtain ⟨f, rfl⟩ : ∃ g, f = g + 1 := ⟨f - 1, by omega⟩
  have hl := sints_len (t.extract a t.size)
  have hx := sints_suf t a
  have hz : (t.extract a t.size).size = t.size - a := by rw [← hl, hx, List.length_drop, sints_len]
  rw [m_lex_reader_blanks_L1.eq_2, chk_pos (by omega), show Int.toNat (a : Int) = a from rfl, show Int.toNat (t.size : Int) = t.size from rfl, if_neg (nd (fun e => by rw [e] at hz; change (0 : Nat) = _ at hz; omega))]
  rw [← hx] at h2
  have hm := idxb_blk ((sints (t.extract a t.size)).headD 0) (head_rng _)
  obtain ⟨r, hr, hr2⟩ := hm
  rw [skS] at h2
  split at h2
  ·rename_i h47
   have h0 := run_one (B := nlB) (i := 0) h47.1 rfl
   rw [List.drop_zero] at h0
   have := Option.some.inj h2
   omega
  ·rename_i h47
   rw [pref_sl, Option.bind_some, if_neg (nd h47)]
   split at h2
   ·obtain ⟨k, _, e⟩ := Option.map_eq_some_iff.1 h2
    omega
   ·rename_i h42
    rw [pref_st, Option.bind_some, if_neg (nd h42), head_at (by omega), Option.bind_some, hr, Option.bind_some]
    split at h2
    ·cases h2
    ·rename_i hbk
     rw [hr2, if_neg (fun e => hbk e)]
 | @opn a p h1 h2 =>
  intro f hf
  obtain ⟨f, rfl⟩ : ∃ g, f = g + 1 := ⟨f - 1, by omega⟩
  have hl := sints_len (t.extract a t.size)
  have hx := sints_suf t a
  have hz : (t.extract a t.size).size = t.size - a := by rw [← hl, hx, List.length_drop, sints_len]
  rw [m_lex_reader_blanks_L1.eq_2, chk_pos (by omega), show Int.toNat (a : Int) = a from rfl, show Int.toNat (t.size : Int) = t.size from rfl, if_neg (nd (fun e => by rw [e] at hz; change (0 : Nat) = _ at hz; omega))]
  rw [← hx] at h2
  rw [skS] at h2
  split at h2
  ·cases h2
  ·rename_i h47
   rw [pref_sl, Option.bind_some, if_neg (nd h47)]
   split at h2
   ·rename_i h42
    have := get_lt h42.2
    have hq : sints ((t.extract a t.size).extract 2 (t.extract a t.size).size) = (sints (t.extract a t.size)).drop 2 := sints_suf _ _
    have hq2 : ((t.extract a t.size).extract 2 (t.extract a t.size).size).size ≤ 33554432 := by rw [ByteArray.size_extract]; omega
    rw [pref_st, Option.bind_some, if_pos (decide_eq_true h42), chk_pos (by omega), show Int.toNat 2 = 2 from rfl, show Int.toNat ((t.extract a t.size).size : Int) = (t.extract a t.size).size from rfl, idx_eq _ hq2, hq, Option.map_eq_none_iff.1 h2, Option.bind_some, if_pos (by decide)]
   ·split at h2 <;> cases h2
 | @skip a p k ok a' p' h1 h2 h3 h4 _ ih =>
  intro f hf
  obtain ⟨f, rfl⟩ : ∃ g, f = g + 1 := ⟨f - 1, by omega⟩
  have hl := sints_len (t.extract a t.size)
  have hx := sints_suf t a
  have hz : (t.extract a t.size).size = t.size - a := by rw [← hl, hx, List.length_drop, sints_len]
  have hb1 : Bd (plc (((sints t).drop a).take k) p) (a + k) := by
   have := hb.plc (xs := ((sints t).drop a).take k)
   rwa [List.length_take, List.length_drop, sints_len, Nat.min_eq_left (by omega)] at this
  have hp := pass_eq ht hb h4
  have hgo := ih hb1 f (by omega)
  rw [m_lex_reader_blanks_L1.eq_2, chk_pos (by omega), show Int.toNat (a : Int) = a from rfl, show Int.toNat (t.size : Int) = t.size from rfl, if_neg (nd (fun e => by rw [e] at hz; change (0 : Nat) = _ at hz; omega))]
  rw [← hx] at h2
  have hm := idxb_blk ((sints (t.extract a t.size)).headD 0) (head_rng _)
  obtain ⟨r, hr, hr2⟩ := hm
  rw [skS] at h2
  split at h2
  ·rename_i h47
   have hk := Option.some.inj h2
   rw [pref_sl, Option.bind_some, if_pos (decide_eq_true h47), idxb_nl, Option.bind_some, hk]
   by_cases hlt : k < (t.extract a t.size).size
   ·rw [if_pos hlt, if_neg (nd (by omega)), m_lex_reader_blanks_J1, hp, Option.bind_some]; exact hgo
   ·rw [if_neg hlt, if_pos (by decide), m_lex_reader_blanks_J1, show (t.extract a t.size).size = k by omega, hp, Option.bind_some]; exact hgo
  ·rename_i h47
   rw [pref_sl, Option.bind_some, if_neg (nd h47)]
   split at h2
   ·rename_i h42
    have := get_lt h42.2
    obtain ⟨q, hq1, rfl⟩ := Option.map_eq_some_iff.1 h2
    have hq2' := clsS_le _ _ hq1
    have hq : sints ((t.extract a t.size).extract 2 (t.extract a t.size).size) = (sints (t.extract a t.size)).drop 2 := sints_suf _ _
    have hq2 : ((t.extract a t.size).extract 2 (t.extract a t.size).size).size ≤ 33554432 := by rw [ByteArray.size_extract]; omega
    have hi : m_idx ((t.extract a t.size).extract 2 (t.extract a t.size).size) ⟨#[42, 47]⟩ = some ((q : Int) - 2) := by rw [idx_eq _ hq2, hq, hq1]
    rw [pref_st, Option.bind_some, if_pos (decide_eq_true h42), chk_pos (by omega), show Int.toNat 2 = 2 from rfl, show Int.toNat ((t.extract a t.size).size : Int) = (t.extract a t.size).size from rfl, hi, Option.bind_some, if_neg (nd (by omega)), w64 (by omega), show (q : Int) - 2 + 4 = ((q + 2 : Nat) : Int) by omega, hp, Option.bind_some]
    exact hgo
   ·rename_i h42
    rw [pref_st, Option.bind_some, if_neg (nd h42), head_at (by omega), Option.bind_some, hr, Option.bind_some]
    split at h2
    ·rename_i hbk
     have := Option.some.inj h2
     subst this
     rw [hr2, if_pos hbk, show (1 : Int) = ((1 : Nat) : Int) from rfl, hp, Option.bind_some]; exact hgo
    ·have := Option.some.inj h2; omega
theorem blanks_eq {a a' : Nat} {p p' : Int × Int} {ok : Bool} (h : BlR t a p ok a' p') (hb : Bd p a) (hN : t.size < N) : m_lex_reader_blanks N (t, (a : Int), p.1, p.2) = some (ok, (t, (a' : Int), p'.1, p'.2)) := by
 rw [m_lex_reader_blanks]
 exact blanks_L1 ht h hb N (by omega)
end
theorem head_get : ∀ (xs : List Int) (h : 0 < xs.length), xs[0]'h = xs.headD 0
 | c :: r, _ => rfl
theorem intS_ge (xs : List Int) : runS digB xs ≤ intS xs := by
 rw [intS]; split <;> omega
theorem expK_ge (xs : List Int) (n : Nat) : n < expK xs n := by
 rw [expK]; split <;> omega
theorem expS_ge (xs : List Int) (n : Nat) : n ≤ (expS xs n).1 := by
 rw [expS]
 split
 ·have := expK_ge xs n
  show n ≤ expK xs n + _
  omega
 ·exact Nat.le_refl _
theorem head_run {B : Int → Bool} {xs : List Int} (h : B (xs.headD 0) = true) (h0 : xs ≠ []) : 1 ≤ runS B xs := by
 cases xs with
 | nil => exact absurd rfl h0
 | cons c r => rw [runS_cons, if_pos (show B c = true from h)]; omega
theorem tokS_le {s : ByteArray} (h0 : 1 ≤ s.size) (hc : (tokS s).2.2.1 = 0) : (tokS s).1 ≤ s.size ∧ 1 ≤ (tokS s).1 ∧ (tokS s).2.1.1 ≠ 0 := by
 have hl := sints_len s
 have hne : sints s ≠ [] := fun e => by rw [e] at hl; simp at hl; omega
 rw [tokS] at hc ⊢
 split at hc
 ·rename_i c1
  have := head_run c1 hne
  have := runS_le wrdB (sints s)
  have h2 : 1 ≤ runS wrdB (sints s) := head_run (by rw [wrdB, c1]; rfl) hne
  rw [if_pos c1]
  split at hc
  ·cases hc
  ·rename_i c2
   rw [if_neg c2]; exact ⟨by show runS _ _ ≤ _; omega, h2, by show (1 : Int) ≠ 0; decide⟩
 ·rename_i c1
  rw [if_neg c1]
  split at hc
  ·rename_i c2
   rw [if_pos c2]
   have h1 := head_run c2 hne
   have h2 := intS_ge (sints s)
   have h3 := expS_ge (sints s) (intS (sints s))
   have h4 := expS_le (sints s) (intS_le (sints s))
   split at hc
   ·cases hc
   ·rename_i c3
    rw [if_neg c3]; exact ⟨by show (expS _ _).1 ≤ _; omega, by show 1 ≤ (expS _ _).1; omega, by show (2 : Int) ≠ 0; decide⟩
  ·rename_i c2
   rw [if_neg c2]
   split at hc
   ·rename_i c3
    rw [if_pos c3]
    cases hq : qtS ((sints s).drop 1) with
    | none => rw [hq] at hc; cases hc
    | some p =>
     have := qtS_rng _ p (fun x hx => sints_rng (List.mem_of_mem_drop hx)) hq
     rw [List.length_drop] at this
     exact ⟨by show 1 + p.1 ≤ _; omega, by show 1 ≤ 1 + p.1; omega, by show (3 : Int) ≠ 0; decide⟩
   ·rename_i c3
    rw [if_neg c3]
    split at hc
    ·rename_i c4
     rw [if_pos c4]; exact ⟨h0, Nat.le_refl 1, by show (4 : Int) ≠ 0; decide⟩
    ·cases hc
def nxR (t : ByteArray) (a : Nat) (p : Int × Int) (T : Nat × (Int × ByteArray) × (Int × ByteArray)) : (Int × ByteArray × Int × Int) × (Option (Int × Int × Int × ByteArray)) × (ByteArray × Int × Int × Int) :=
 if T.2.2.1 = 0 then ((T.2.1.1, T.2.1.2, p.1, p.2), none, (t, ((a + T.1 : Nat) : Int), (plc (((sints t).drop a).take T.1) p).1, (plc (((sints t).drop a).take T.1) p).2))
 else ((0, ⟨#[]⟩, 0, 0), some (T.2.2.1, p.1, p.2, T.2.2.2), (t, (a : Int), p.1, p.2))
section
variable {N : Nat} {t : ByteArray} (ht : t.size ≤ 33554432) (hN : t.size < N)
include ht hN
theorem next_opn {a a' : Nat} {p p' : Int × Int} (h : BlR t a p false a' p') (hb : Bd p a) :
  m_lex_reader_next N (t, (a : Int), p.1, p.2) = some ((0, ⟨#[]⟩, 0, 0), some (21, p'.1, p'.2, ⟨#[47, 42]⟩), (t, (a' : Int), p'.1, p'.2)) := by
 rw [m_lex_reader_next]
 dsimp only
 rw [blanks_eq ht h hb hN, Option.bind_some, if_pos (by rfl), m_fail, Option.bind_some]
theorem next_fin {a : Nat} {p p' : Int × Int} (h : BlR t a p true t.size p') (hb : Bd p a) :
  m_lex_reader_next N (t, (a : Int), p.1, p.2) = some ((0, ⟨#[]⟩, p'.1, p'.2), none, (t, (t.size : Int), p'.1, p'.2)) := by
 have he : t.extract t.size t.size = ⟨#[]⟩ := ext_eq (by rw [sints_suf, List.drop_eq_nil_of_le (by rw [sints_len]; omega)]; rfl)
 rw [m_lex_reader_next]
 dsimp only
 rw [blanks_eq ht h hb hN, Option.bind_some]
 dsimp only
 rw [if_neg (by decide), chk_pos (by omega), show Int.toNat (t.size : Int) = t.size from rfl, if_pos (decide_eq_true he)]
theorem next_tok {a a' : Nat} {p p' : Int × Int} (h : BlR t a p true a' p') (hb : Bd p a) (hlt : a' < t.size) :
  m_lex_reader_next N (t, (a : Int), p.1, p.2) = some (nxR t a' p' (tokS (t.extract a' t.size))) := by
 have hb' := h.le.2.2 hb
 have hz : (t.extract a' t.size).size = t.size - a' := by rw [ByteArray.size_extract]; omega
 rw [m_lex_reader_next]
 dsimp only
 rw [blanks_eq ht h hb hN, Option.bind_some]
 dsimp only
 rw [if_neg (by decide), chk_pos (by omega), show Int.toNat (a' : Int) = a' from rfl, show Int.toNat (t.size : Int) = t.size from rfl, if_neg (nd (fun e => by rw [e] at hz; change (0 : Nat) = _ at hz; omega))]
 have hs : (t.extract a' t.size).size ≤ 1099511627776 := by omega
 have hNs : (t.extract a' t.size).size < N := by omega
 have h1s : 1 ≤ (t.extract a' t.size).size := by omega
 have hx : (t.extract a' t.size) = t.extract (Int.toNat (a' : Int)) (Int.toNat (t.size : Int)) := rfl
 have hJ : ∀ (k : Nat) (kd : Int) (tx : ByteArray), a' + k ≤ t.size → m_lex_reader_next_J1 (true, (t, (a' : Int), p'.1, p'.2)) 0 (⟨#[]⟩) 0 0 kd tx p'.1 p'.2 (k : Int) = some (nxR t a' p' (k, (kd, tx), (0, ⟨#[]⟩))) := by
  intro k kd tx hk
  rw [m_lex_reader_next_J1]
  dsimp only
  rw [pass_eq ht hb' hk, Option.bind_some, nxR, if_pos rfl]
 have hB : ∀ (k : Nat) (kd c : Int) (tx w : ByteArray), c ≠ 0 → some (nxR t a' p' (k, (kd, tx), (c, w))) = some ((0, ⟨#[]⟩, 0, 0), some (c, p'.1, p'.2, w), (t, (a' : Int), p'.1, p'.2)) := by
  intro k kd c tx w hc
  rw [nxR, if_neg hc]
 have hJ2 : ∀ (b : Bool) (n : Nat) (D : ByteArray), a' + n ≤ t.size → m_lex_reader_next_J2 N (true, (t, (a' : Int), p'.1, p'.2)) ((n : Int), D) b = some (nxR t a' p' (if b = true then (0, (0, ⟨#[]⟩), (22, (t.extract a' t.size).extract 0 (n + runS wrdB ((sints (t.extract a' t.size)).drop n)))) else (n, (2, (t.extract a' t.size).extract 0 n), (0, ⟨#[]⟩)))) := by
  intro b n D hn
  rw [m_lex_reader_next_J2]
  dsimp only
  rw [← hx]
  cases b with
  | true =>
   have := run_drop_le wrdB (sints (t.extract a' t.size)) n
   rw [sints_len] at this
   rw [if_pos rfl, if_pos rfl, lex_run_eq hs (by omega) hNs, Option.bind_some, w64 (by omega), chk_pos (by omega), m_fail, Option.bind_some, hB _ _ _ _ _ (by decide)]; rfl
  | false => rw [if_neg (by decide), if_neg (by decide)]; exact hJ n _ _ hn
 generalize t.extract a' t.size = s at hz hs hNs h1s hJ2
 have hl := sints_len s
 have hw : m_lex_run_v2f36 N s 0 = some ((runS wrdB (sints s) : Nat) : Int) := lex_run_eq (N := N) hs (at_ := 0) (by omega) hNs
 have hr := runS_le wrdB (sints s)
 rw [head_at h1s, Option.bind_some, Option.bind_some, Option.bind_some, Option.bind_some, lex_letter_eq, Option.bind_some, lex_digit_eq, Option.bind_some]
 rw [tokS]
 by_cases c1 : letB ((sints s).headD 0) = true
 ·rw [if_pos c1, if_pos c1, hw, Option.bind_some]
  by_cases c2 : 64 < runS wrdB (sints s)
  ·rw [if_pos c2, chk_pos (by omega), if_pos (decide_eq_true (by omega)), chk_pos (by omega), m_fail, Option.bind_some, hB _ _ _ _ _ (by decide)]; rfl
  ·rw [if_neg c2, chk_pos (by omega), if_neg (nd (by omega))]
   exact hJ _ _ _ (by omega)
 ·rw [if_neg c1, if_neg c1]
  by_cases c2 : digB ((sints s).headD 0) = true
  ·rw [if_pos c2, if_pos c2]
   obtain ⟨D, hD, hD2⟩ := lex_number_eq hs hNs
   have hn := expS_le (sints s) (intS_le (sints s))
   have hdg := expS_digs (sints s) (intS (sints s))
   rw [hD, Option.bind_some]
   generalize expS (sints s) (intS (sints s)) = e at hn hdg hD2
   have hlg : m_lex_large D = some (bigS e.2) := by rw [lex_large_eq (by rw [hD2]; exact hdg), hD2]
   rw [chk_pos (by dsimp only; omega), hlg, Option.bind_some]
   dsimp only
   by_cases c3 : bigS e.2 = true
   ·rw [if_pos c3, if_pos (.inl c3), hJ2 true e.1 D (by omega), if_pos rfl]
   ·rw [if_neg c3]
    have hc4 : (if (decide ((e.1 : Int) < (s.size : Int))) = true then ((bat? s (e.1 : Int)).bind fun e_155 => (m_lex_letter e_155).bind fun r_157 => m_lex_reader_next_J2 N (true, (t, (a' : Int), p'.1, p'.2)) ((e.1 : Int), D) r_157) else (m_lex_reader_next_J2 N (true, (t, (a' : Int), p'.1, p'.2)) ((e.1 : Int), D) false)) = m_lex_reader_next_J2 N (true, (t, (a' : Int), p'.1, p'.2)) ((e.1 : Int), D) (letB (((sints s)[e.1]?).getD 0)) := by
     by_cases hlt2 : e.1 < s.size
     ·rw [if_pos (decide_eq_true (by omega)), bat_lt hlt2, Option.bind_some, lex_letter_eq, Option.bind_some, List.getElem?_eq_getElem (by omega)]; rfl
     ·rw [if_neg (nd (by omega)), List.getElem?_eq_none (by omega)]; rfl
    refine hc4.trans ?_
    rw [hJ2 _ e.1 D (by omega)]
    by_cases c4 : letB (((sints s)[e.1]?).getD 0) = true
    ·rw [if_pos c4, if_pos (.inr c4)]
    ·rw [if_neg c4, if_neg (by rintro (h | h); exact c3 h; exact c4 h)]
  ·rw [if_neg c2, if_neg c2]
   by_cases c3 : (sints s).headD 0 = 34
   ·rw [if_pos (decide_eq_true c3), if_pos c3, lex_meant_eq hs hNs, Option.bind_some]
    cases hq : qtS ((sints s).drop 1) with
    | none =>
     have h34 : s.extract 0 1 = ⟨#[34]⟩ := by
      have := ext_one (s := s) (i := 0) (by omega)
      rw [this]
      have e0 : (sints s)[0]'(by omega) = 34 := by
       rw [← c3]; exact head_get _ _
      rw [e0]; rfl
     rw [qtP, if_pos (by rfl), chk_pos (by omega), m_fail, Option.bind_some, hB _ _ _ _ _ (by decide), show Int.toNat 0 = 0 from rfl, show Int.toNat 1 = 1 from rfl, h34]
    | some q =>
     have := qtS_rng _ q (fun x hx => sints_rng (List.mem_of_mem_drop hx)) hq
     rw [List.length_drop] at this
     rw [qtP]
     dsimp only
     rw [if_neg (by decide), List.nil_append]
     exact hJ (1 + q.1) _ _ (by omega)
   ·rw [if_neg (nd c3), if_neg c3]
    obtain ⟨r, hr1, hr2⟩ := idxb_sgn ((sints s).headD 0) (head_rng s)
    rw [hr1, Option.bind_some, hr2]
    by_cases c4 : sgnB ((sints s).headD 0) = true
    ·rw [if_pos c4, if_pos c4, chk_pos (by omega)]
     exact hJ 1 _ _ (by omega)
    ·rw [if_neg c4, if_neg c4, chk_pos (by omega), m_fail, Option.bind_some, hB _ _ _ _ _ (by decide)]; rfl
end
abbrev TokV := Int × ByteArray × Int × Int
abbrev FltV := Int × Int × Int × ByteArray
inductive LexR (t : ByteArray) : Nat → Int × Int → List TokV → Option FltV → Prop
 | fin {a p p'} : BlR t a p true t.size p' → LexR t a p [(0, ⟨#[]⟩, p'.1, p'.2)] none
 | opn {a p a' p'} : BlR t a p false a' p' → LexR t a p [] (some (21, p'.1, p'.2, ⟨#[47, 42]⟩))
 | bad {a p a' p'} : BlR t a p true a' p' → a' < t.size → (tokS (t.extract a' t.size)).2.2.1 ≠ 0 → LexR t a p [] (some ((tokS (t.extract a' t.size)).2.2.1, p'.1, p'.2, (tokS (t.extract a' t.size)).2.2.2))
 | tok {a p a' p' l f} : BlR t a p true a' p' → a' < t.size → (tokS (t.extract a' t.size)).2.2.1 = 0 →
   LexR t (a' + (tokS (t.extract a' t.size)).1) (plc (((sints t).drop a').take (tokS (t.extract a' t.size)).1) p') l f →
   LexR t a p (((tokS (t.extract a' t.size)).2.1.1, (tokS (t.extract a' t.size)).2.1.2, p'.1, p'.2) :: l) f
theorem blR_ex (t : ByteArray) : ∀ (m a : Nat) (p : Int × Int), t.size - a ≤ m → a ≤ t.size → ∃ ok a' p', BlR t a p ok a' p'
 | 0, a, p, h1, h2 => ⟨_, _, _, .fin (by omega)⟩
 | m + 1, a, p, h1, h2 => by
  rcases Nat.lt_or_ge a t.size with h | h
  ·cases hk : skS ((sints t).drop a) with
   | none => exact ⟨_, _, _, .opn h hk⟩
   | some k =>
    cases k with
    | zero => exact ⟨_, _, _, .done h hk⟩
    | succ k =>
     have hl := skS_le hk (fun e => by have := congrArg List.length e; rw [List.length_drop, sints_len] at this; simp at this; omega)
     rw [List.length_drop, sints_len] at hl
     obtain ⟨ok, a', p', h3⟩ := blR_ex t m (a + (k + 1)) (plc (((sints t).drop a).take (k + 1)) p) (by omega) (by omega)
     exact ⟨ok, a', p', .skip h hk (by omega) (by omega) h3⟩
  ·exact ⟨_, _, _, .fin (by omega)⟩
theorem lexR_ex (t : ByteArray) : ∀ (m a : Nat) (p : Int × Int), t.size - a ≤ m → a ≤ t.size → ∃ l f, LexR t a p l f := by
  intro m
  induction m with
  | zero =>
    intro a p h1 h2
    exact ⟨_, _, .fin (p' := p) (by have : a = t.size := by omega
                                    subst this; exact .fin rfl)⟩
  | succ m ih =>
    intro a p h1 h2
    obtain ⟨ok, a', p', hb⟩ := blR_ex t (t.size - a) a p (Nat.le_refl _) h2
    have hl := hb.le
    cases ok with
    | false => exact ⟨_, _, .opn hb⟩
    | true =>
      rcases Nat.lt_or_ge a' t.size with h | h
      · by_cases hc : (tokS (t.extract a' t.size)).2.2.1 = 0
        · have hz : (t.extract a' t.size).size = t.size - a' := by rw [ByteArray.size_extract]; omega
          have := tokS_le (s := t.extract a' t.size) (by omega) hc
          obtain ⟨l, f, h3⟩ := ih (a' + (tokS (t.extract a' t.size)).1) (plc (((sints t).drop a').take (tokS (t.extract a' t.size)).1) p') (by omega) (by omega)
          exact ⟨_, _, .tok hb h hc h3⟩
        · exact ⟨_, _, .bad hb h hc⟩
      · have : a' = t.size := by omega
        subst this
        exact ⟨_, _, .fin hb⟩
theorem LexR.facts {t : ByteArray} {a : Nat} {p : Int × Int} {l : List TokV} {f : Option FltV} (h : LexR t a p l f) (ha : a ≤ t.size) :
  l.length ≤ t.size - a + 1 ∧ (f = none → ∃ x, l.getLast? = some x ∧ x.1 = 0) ∧ (∀ e, f = some e → e.1 ≠ 0) := by
 induction h with
 | fin h => exact ⟨by simp, fun _ => ⟨_, rfl, rfl⟩, fun e he => by cases he⟩
 | opn h => exact ⟨by simp, fun e => (by cases e), fun e he => (by cases he; show (21 : Int) ≠ 0; decide)⟩
 | bad h h1 h2 => exact ⟨by simp, fun e => (by cases e), fun e he => (by cases he; exact h2)⟩
 | @tok a p a' p' l f h1 h2 h3 h4 ih =>
  have hz : (t.extract a' t.size).size = t.size - a' := by rw [ByteArray.size_extract]; omega
  have hk := tokS_le (s := t.extract a' t.size) (by omega) h3
  have hle := h1.le
  obtain ⟨i1, i2, i3⟩ := ih (by omega)
  refine ⟨by rw [List.length_cons]; omega, fun e => ?_, i3⟩
  obtain ⟨x, hx, hx2⟩ := i2 e
  refine ⟨x, ?_, hx2⟩
  rw [List.getLast?_cons, hx]; rfl
theorem place_L1 {N : Nat} {t : ByteArray} (ht : t.size ≤ 33554432) {a : Nat} (ha : a ≤ t.size) : ∀ (f i : Nat) (p : Int × Int), Bd p i → a < f + i → i ≤ a →
  m_r06_Place_L1 N t (a : Int) f p.1 p.2 (i : Int) = some (plc (((sints t).drop i).take (a - i)) p)
 | 0, i, p, hb, h1, h2 => by omega
 | f + 1, i, p, hb, h1, h2 => by
  have hl := sints_len t
  rw [m_r06_Place_L1.eq_2]
  by_cases hk : i < a
  ·rw [if_pos (decide_eq_true (by omega)), bat_lt (by omega), Option.bind_some, dropG (by omega), show a - i = (a - (i + 1)) + 1 by omega, List.take_succ_cons, plc_cons]
   have hb1 : Bd (if (sints t)[i]'(by omega) = 10 then (p.1 + 1, 1) else (p.1, p.2 + 1)) (i + 1) := Bd.plc (xs := [(sints t)[i]'(by omega)]) hb
   have ih := place_L1 (N := N) ht ha f (i + 1) _ hb1 (by omega) (by omega)
   rw [← ih]
   obtain ⟨b1, b2, b3, b4⟩ := hb
   by_cases h : (sints t)[i]'(by omega) = 10
   ·rw [if_pos (decide_eq_true h), if_pos h, m_r06_Place_J1, w64 (by omega), w64 (by omega)]; rfl
   ·rw [if_neg (nd h), if_neg h, m_r06_Place_J1, w64 (by omega), w64 (by omega)]; rfl
  ·have : i = a := by omega
   subst this
   rw [if_neg (nd (by omega)), Nat.sub_self, List.take_zero]; rfl
theorem place_eq {N : Nat} {t : ByteArray} (ht : t.size ≤ 33554432) (hN : t.size < N) {a : Nat} (ha : a ≤ t.size) : m_r06_Place N t (a : Int) = some (plc ((sints t).take a) (1, 1)) := by
 have := place_L1 (N := N) ht ha N 0 (1, 1) ⟨by decide, by decide, by decide, by decide⟩ (by omega) (by omega)
 rw [List.drop_zero] at this
 rw [m_r06_Place]
 exact this
theorem plc_take (xs : List Int) (a k : Nat) (p : Int × Int) : plc ((xs.drop a).take k) (plc (xs.take a) p) = plc (xs.take (a + k)) p := by
 rw [← plc_app, List.take_add]
section
variable {N : Nat} {t : ByteArray} (ht : t.size ≤ 33554432) (hN : t.size < N) (hN2 : 15 ≤ N)
include ht hN hN2
theorem all_step {a : Nat} (ha : a < t.size) (f : Nat) (v1 v2 v3 : Int) (v4 : ByteArray) (acc : List TokV) (hacc : acc.length ≤ 33554432) :
  m_r06_All_L1 N t (f + 1) v1 v2 v3 v4 acc (a : Int) = match skS ((sints t).drop a) with
   | none => some (acc, (21, (plc ((sints t).take a) (1, 1)).1, (plc ((sints t).take a) (1, 1)).2, ⟨#[47, 42]⟩))
   | some (k + 1) => m_r06_All_L1 N t f v1 v2 v3 v4 acc ((a + (k + 1) : Nat) : Int)
   | some 0 => if (tokS (t.extract a t.size)).2.2.1 = 0 then m_r06_All_L1 N t f v1 v2 v3 v4 (acc ++ [((tokS (t.extract a t.size)).2.1.1, (tokS (t.extract a t.size)).2.1.2, (plc ((sints t).take a) (1, 1)).1, (plc ((sints t).take a) (1, 1)).2)]) ((a + (tokS (t.extract a t.size)).1 : Nat) : Int)
    else some (acc, ((tokS (t.extract a t.size)).2.2.1, (plc ((sints t).take a) (1, 1)).1, (plc ((sints t).take a) (1, 1)).2, (tokS (t.extract a t.size)).2.2.2)) := by
 have hx := sints_suf t a
 have hz : (t.extract a t.size).size = t.size - a := by rw [ByteArray.size_extract]; omega
 have ht1 : ∀ (n : Nat) (kd : Int) (tx : ByteArray), n ≤ t.size → ∀ acc' , m_r06_All_J1 v1 v2 v3 v4 (a : Int) (m_r06_All_L1 N t f) ((n : Int), (kd, tx, 0, 0), (0, 0, 0, ⟨#[]⟩)) acc' = m_r06_All_L1 N t f v1 v2 v3 v4 acc' ((a + n : Nat) : Int) := by
  intro n kd tx hn acc'
  rw [m_r06_All_J1]
  dsimp only
  rw [w64 (by omega)]; rfl
 rw [m_r06_All_L1.eq_2, if_pos (decide_eq_true (by omega)), chk_pos (by omega), show Int.toNat (a : Int) = a from rfl, show Int.toNat (t.size : Int) = t.size from rfl, place_eq ht hN (by omega), ← hx]
 cases hk : skS (sints (t.extract a t.size)) with
 | none => rw [ref_take_none (N := N) (by omega) (by omega) hN2 (by omega) hk, Option.bind_some, Option.bind_some, if_pos (by rfl)]
 | some k =>
  have hkl := skS_le hk (fun e => by have := congrArg List.length e; rw [sints_len] at this; simp at this; omega)
  rw [sints_len] at hkl
  cases k with
  | succ k =>
   rw [ref_take_skip (N := N) (by omega) (by omega) hN2 (by omega) hk (by omega), Option.bind_some, Option.bind_some, if_neg (by show ¬ (!decide ((0 : Int) = 0)) = true; decide), if_neg (by show ¬ (!decide ((0 : Int) = 0)) = true; decide), ht1 (k + 1) 0 ⟨#[]⟩ (by omega)]
  | zero =>
   have hle := tokS_le (s := t.extract a t.size) (by omega)
   rw [ref_take_tok (N := N) (by omega) (by omega) hN2 (by omega) hk, Option.bind_some, Option.bind_some]
   dsimp only
   generalize tokS (t.extract a t.size) = T at hle
   by_cases hc : T.2.2.1 = 0
   ·obtain ⟨h1, h2, h3⟩ := hle hc
    rw [if_neg (by rw [decide_eq_true hc]; decide), if_pos (by rw [decide_eq_false h3]; rfl), if_pos hc, chk_pos (by
     have : ([((T.2.1.1, T.2.1.2, (plc ((sints t).take a) (1, 1)).1, (plc ((sints t).take a) (1, 1)).2) : TokV)]).length = 1 := rfl
     rw [this]; simp only [maxLen]; omega)]
    rw [m_r06_All_J1]
    dsimp only
    rw [w64 (by omega)]; rfl
   ·rw [if_pos (by rw [decide_eq_false hc]; rfl), if_neg hc]
theorem all_skip {a a' : Nat} {p p' : Int × Int} {ok : Bool} (h : BlR t a p ok a' p') (v1 v2 v3 : Int) (v4 : ByteArray) (acc : List TokV) (hacc : acc.length ≤ 33554432) (hp : p = plc ((sints t).take a) (1, 1)) :
  p' = plc ((sints t).take a') (1, 1) ∧ ∀ f, t.size < f + a → ∃ f', t.size < f' + a' ∧ m_r06_All_L1 N t f v1 v2 v3 v4 acc (a : Int) = m_r06_All_L1 N t f' v1 v2 v3 v4 acc (a' : Int) := by
 induction h with
 | fin h => exact ⟨hp, fun f hf => ⟨f, hf, rfl⟩⟩
 | done h h2 => exact ⟨hp, fun f hf => ⟨f, hf, rfl⟩⟩
 | opn h h2 => exact ⟨hp, fun f hf => ⟨f, hf, rfl⟩⟩
 | @skip a p k ok a' p' h1 h2 h3 h4 h5 ih =>
  obtain ⟨i1, i2⟩ := ih (by rw [hp, plc_take])
  refine ⟨i1, fun f hf => ?_⟩
  obtain ⟨f, rfl⟩ : ∃ g, f = g + 1 := ⟨f - 1, by omega⟩
  obtain ⟨f', h6, h7⟩ := i2 f (by omega)
  refine ⟨f', h6, ?_⟩
  rw [all_step ht hN hN2 h1 f v1 v2 v3 v4 acc hacc, h2]
  obtain ⟨k, rfl⟩ : ∃ g, k = g + 1 := ⟨k - 1, by omega⟩
  exact h7
def flL : Option FltV → List (TokV × Option FltV)
 | none => []
 | some e => [((0, ⟨#[]⟩, 0, 0), some e)]
def fltO (f : Option FltV) : FltV := f.getD (0, 0, 0, ⟨#[]⟩)
theorem bl_false {a a' : Nat} {p p' : Int × Int} {ok : Bool} (h : BlR t a p ok a' p') : (ok = false → a' < t.size ∧ skS ((sints t).drop a') = none) ∧ (ok = true → a' < t.size → skS ((sints t).drop a') = some 0) := by
 induction h with
 | fin h => exact ⟨fun e => (by cases e), fun _ e => by omega⟩
 | done h h2 => exact ⟨fun e => (by cases e), fun _ _ => h2⟩
 | opn h h2 => exact ⟨fun _ => ⟨h, h2⟩, fun e => by cases e⟩
 | skip h1 h2 h3 h4 h5 ih => exact ih
theorem all_L1 {a : Nat} {p : Int × Int} {l : List TokV} {f : Option FltV} (h : LexR t a p l f) (ha : a ≤ t.size) (v1 v2 v3 : Int) (v4 : ByteArray) : ∀ (acc : List TokV), acc.length + l.length ≤ 33554434 → acc.length ≤ a → p = plc ((sints t).take a) (1, 1) →
  ∀ g, t.size < g + a → m_r06_All_L1 N t g v1 v2 v3 v4 acc (a : Int) = some (acc ++ l, fltO f) := by
 induction h with
 | @fin a p p' h =>
  intro acc hl hacc hp g hg
  obtain ⟨h1, h2⟩ := all_skip ht hN hN2 h v1 v2 v3 v4 acc (by omega) hp
  obtain ⟨g', h3, h4⟩ := h2 g hg
  obtain ⟨g', rfl⟩ : ∃ k, g' = k + 1 := ⟨g' - 1, by omega⟩
  rw [h4, m_r06_All_L1.eq_2, if_neg (nd (by omega)), place_eq ht hN (by omega), Option.bind_some, h1]
  rw [chk_pos (by
   have : ([((0, ⟨#[]⟩, (plc ((sints t).take t.size) (1, 1)).1, (plc ((sints t).take t.size) (1, 1)).2) : TokV)]).length = 1 := rfl
   rw [this]; simp only [maxLen]; omega)]
  rfl
 | @opn a p a' p' h =>
  intro acc hl hacc hp g hg
  obtain ⟨h1, h2⟩ := all_skip ht hN hN2 h v1 v2 v3 v4 acc (by omega) hp
  obtain ⟨g', h3, h4⟩ := h2 g hg
  have h5 := (bl_false ht hN hN2 h).1 rfl
  obtain ⟨g', rfl⟩ : ∃ k, g' = k + 1 := ⟨g' - 1, by omega⟩
  rw [h4, all_step ht hN hN2 h5.1 g' v1 v2 v3 v4 acc (by omega), h5.2, h1, List.append_nil]
  rfl
 | @bad a p a' p' h hlt hc =>
  intro acc hl hacc hp g hg
  obtain ⟨h1, h2⟩ := all_skip ht hN hN2 h v1 v2 v3 v4 acc (by omega) hp
  obtain ⟨g', h3, h4⟩ := h2 g hg
  have h5 := (bl_false ht hN hN2 h).2 rfl hlt
  obtain ⟨g', rfl⟩ : ∃ k, g' = k + 1 := ⟨g' - 1, by omega⟩
  rw [h4, all_step ht hN hN2 hlt g' v1 v2 v3 v4 acc (by omega), h5]
  dsimp only
  rw [if_neg hc, h1, List.append_nil]
  rfl
 | @tok a p a' p' l f h hlt hc hr ih =>
  intro acc hl hacc hp g hg
  have hz : (t.extract a' t.size).size = t.size - a' := by rw [ByteArray.size_extract]; omega
  have hk := tokS_le (s := t.extract a' t.size) (by omega) hc
  have hle := h.le
  obtain ⟨h1, h2⟩ := all_skip ht hN hN2 h v1 v2 v3 v4 acc (by omega) hp
  obtain ⟨g', h3, h4⟩ := h2 g hg
  have h5 := (bl_false ht hN hN2 h).2 rfl hlt
  obtain ⟨g', rfl⟩ : ∃ k, g' = k + 1 := ⟨g' - 1, by omega⟩
  rw [List.length_cons] at hl
  rw [h4, all_step ht hN hN2 hlt g' v1 v2 v3 v4 acc (by omega), h5]
  dsimp only
  rw [if_pos hc]
  have := ih (by omega) (acc ++ [((tokS (t.extract a' t.size)).2.1.1, (tokS (t.extract a' t.size)).2.1.2, (plc ((sints t).take a') (1, 1)).1, (plc ((sints t).take a') (1, 1)).2)]) (by rw [List.length_append]; simp only [List.length_cons, List.length_nil]; omega) (by rw [List.length_append]; simp only [List.length_cons, List.length_nil]; omega) (by rw [h1, plc_take]) g' (by omega)
  rw [this, List.append_assoc, h1]; rfl
theorem ref_all_eq {l : List TokV} {f : Option FltV} (h : LexR t 0 (1, 1) l f) : m_r06_All N t = some (l, fltO f) := by
 have := h.facts (by omega)
 rw [m_r06_All]
 exact all_L1 ht hN hN2 h (by omega) 0 0 0 ⟨#[]⟩ [] (by simp; omega) (by simp) rfl N (by omega)
theorem each_L1 {a : Nat} {p : Int × Int} {l : List TokV} {f : Option FltV} (h : LexR t a p l f) (ha : a ≤ t.size) : Bd p a → ∀ g, t.size + 1 < g + a →
  m_lex_Each_1_L1 N g t (a : Int) p.1 p.2 = some (l.map (fun x => (x, none)) ++ flL f) := by
 induction h with
 | @fin a p p' h =>
  intro hb g hg
  obtain ⟨g, rfl⟩ : ∃ k, g = k + 1 := ⟨g - 1, by omega⟩
  rw [m_lex_Each_1_L1.eq_2, next_fin ht hN h hb, Option.bind_some]
  rfl
 | @opn a p a' p' h =>
  intro hb g hg
  obtain ⟨g, rfl⟩ : ∃ k, g = k + 1 := ⟨g - 1, by omega⟩
  rw [m_lex_Each_1_L1.eq_2, next_opn ht hN h hb, Option.bind_some]
  rfl
 | @bad a p a' p' h hlt hc =>
  intro hb g hg
  obtain ⟨g, rfl⟩ : ∃ k, g = k + 1 := ⟨g - 1, by omega⟩
  rw [m_lex_Each_1_L1.eq_2, next_tok ht hN h hb hlt, Option.bind_some, nxR, if_neg hc]
  rfl
 | @tok a p a' p' l f h hlt hc hr ih =>
  intro hb g hg
  obtain ⟨g, rfl⟩ : ∃ k, g = k + 1 := ⟨g - 1, by omega⟩
  have hz : (t.extract a' t.size).size = t.size - a' := by rw [ByteArray.size_extract]; omega
  have hk := tokS_le (s := t.extract a' t.size) (by omega) hc
  have hle := h.le
  have hb2 := (hle.2.2 hb).plc (xs := ((sints t).drop a').take (tokS (t.extract a' t.size)).1)
  rw [List.length_take, List.length_drop, sints_len, Nat.min_eq_left (by omega)] at hb2
  have := ih (by omega) hb2 g (by omega)
  rw [m_lex_Each_1_L1.eq_2, next_tok ht hN h hb hlt, Option.bind_some, nxR, if_pos hc]
  dsimp only
  rw [if_neg (by decide), if_neg (nd hk.2.2), this, Option.bind_some]; rfl
theorem lex_each_eq {l : List TokV} {f : Option FltV} (h : LexR t 0 (1, 1) l f) (hN3 : t.size + 1 < N) : m_lex_Each N t = some (l.map (fun x => (x, none)) ++ flL f) := by
 rw [m_lex_Each, m_lex_Each_1]
 exact each_L1 ht hN hN2 h (by omega) ⟨by decide, by decide, by decide, by decide⟩ N (by omega)
end
def m_l06_told_J1  : Option ((Int × Int × Int × ByteArray) × Bool) :=
  some ((0, 0, 0, ⟨#[]⟩), false)
def m_l06_told_J2 (f_15 : (Int × Int × Int × ByteArray)) (v_52 : Bool) : Option ((Int × Int × Int × ByteArray) × Bool) :=
  if v_52 = true then (some ((0, 0, 0, ⟨#[]⟩), false)) else (some ((f_15.1, f_15.2.1, f_15.2.2.1, f_15.2.2.2), true))
def m_l06_told (p0_err : (Option (Int × Int × Int × ByteArray))) : Option ((Int × Int × Int × ByteArray) × Bool) :=
  if (!p0_err.isSome) = true then (some ((0, 0, 0, ⟨#[]⟩), true)) else (optC (p0_err) (m_l06_told_J1) (fun f_15 => m_l06_told_J2 f_15 (decide (f_15.1 = 0))))
theorem c_l06_told {col : Col} {w0 : World} {ve0 : Value} {p0_err : (Option (Int × Int × Int × ByteArray))} {r : ((Int × Int × Int × ByteArray) × Bool)} (hm : m_l06_told p0_err = some r) (he0 : Rd (Rep.err 57 26 (Rep.pair (Rep.int .i64) (Rep.pair (Rep.int .i64) (Rep.pair (Rep.int .i64) Rep.str)))) col w0 [ve0] p0_err) (hgl : Gl (.iface 146 (.agg #[.pointer (some ⟨4, 30, none⟩)])) col w0) :
    Calls Tryz.prog 13 #[ve0] w0 (fun e w' => ∃ (col' : Col), e = .returned (.tuple #[(.agg #[(.int .i64 r.1.1), (.int .i64 r.1.2.1), (.int .i64 r.1.2.2.1), (.string r.1.2.2.2)]), (.bool r.2)]) ∧ Grow col w0 col' w') := by
 refine calls_ofR (m := 29) Tryz.func13 rfl rfl rfl ?_;rw [m_l06_told.eq_1] at hm;have hst := St.start col w0;refine go ?_;refine l_allocA (col := (col0 col)) #[(.int .i64 0), (.int .i64 0), (.int .i64 0), (.string (⟨#[]⟩))] 1 Tryz.zeroValue26 ?_;intro g_1 w_2 col_3 hg_4 hb_5;refine go ?_;refine lv (v := ve0) rfl rfl (r_move rfl) ?_;replace he0 := (he0.keep (Stay.start col w0)).gr hg_4;refine lV (.bool (!p0_err.isSome)) (r_eqlE he0 Tryz.underlying30 rfl) <| lnil ?_;replace hgl := (hgl.keep (Stay.start col w0)).gr hg_4;replace hst := hst.grow hg_4;refine wcb hm (fun hb hm => go ?_) fun hb hm => go ?_
 ·refine lV (.agg #[(.int .i64 0), (.int .i64 0), (.int .i64 0), (.string (⟨#[]⟩))]) (r_build (l := [_, _, _, _]) (qs := [(0, 1), (1, 1), (2, 1), (3, 1)]) Tryz.underlying26 Tryz.zeroValue26 ⟨rfl, Tryz.sizeOf24, rfl, Tryz.sizeOf3, rfl, Tryz.sizeOf3, rfl, Tryz.sizeOf9, trivial⟩ rfl) <| l_bsA hb_5 ?_;intro w_6 hk_7 hs_8 hb_9;refine go ?_;cases hm;replace hst := hst.kp hk_7 hs_8;exact ⟨rfl, _, rat hb_9.atN, _, rfl, hst.fin (cm [])⟩
 refine l_alloc (col := col_3) (v := (.pointer none)) 2 rfl Tryz.zeroValue57 ?_;intro g_10 w_11 col_12 hg_13 hb_14;replace hb_14 : Box 57 2 col_12 w_11 g_10 #[(.pointer none)] := hb_14;refine go ?_;refine lv (v := ve0) rfl rfl (r_move rfl) ?_;replace he0 := he0.gr hg_13;replace hgl := hgl.gr hg_13;replace hb_5 := hb_5.gr hg_13;replace hst := hst.grow hg_13;refine lV (.iface 59 (.pointer (some ⟨g_10, 0, none⟩))) (r_mkI Tryz.underlying59 rfl) ?_
 cases hx_16 : p0_err with
 | none =>
  rw [hx_16] at hm he0;replace hm := optC_none hm;obtain rfl := he0.eN;refine lc rfl rfl (r_call2 Tryz.call29 rfl rfl) (as_no _ _) ?_;rintro _ w_17 ⟨rfl, hg_18⟩;refine ⟨_, rfl, ?_⟩;replace hg_18 : Grow col_12 w_11 col_12 w_17 := .of_below hg_18;refine lAB rfl <| lnil <| wseq <| wseq ?_;replace hgl := hgl.gr hg_18;replace hb_5 := hb_5.gr hg_18;replace hb_14 := hb_14.gr hg_18;replace hst := hst.grow hg_18;refine Wp.cutK [2, 4, 1000000] (fun f w_19 => ∃ col_20, m_l06_told_J1  = some r ∧ St w0 (col0 col) col_20 w_19 ∧ Box 26 1 col_20 w_19 g_1 #[(.int .i64 0), (.int .i64 0), (.int .i64 0), (.string (⟨#[]⟩))] ∧ Box 57 2 col_20 w_19 g_10 #[(.pointer none)] ∧ Gl (.iface 146 (.agg #[.pointer (some ⟨4, 30, none⟩)])) col_20 w_19 ∧ [24].map f = [.bool true]) ?_ ?_
  ·intro f w_19 hJ;obtain ⟨col_20, hm, hst, hb_5, hb_14, hgl, hs⟩ := hJ;rw [m_l06_told_J1.eq_1] at hm;refine .lL [24] hs <| wcondT rfl <| go ?_;refine lV (.agg #[(.int .i64 0), (.int .i64 0), (.int .i64 0), (.string (⟨#[]⟩))]) (r_build (l := [_, _, _, _]) (qs := [(0, 1), (1, 1), (2, 1), (3, 1)]) Tryz.underlying26 Tryz.zeroValue26 ⟨rfl, Tryz.sizeOf24, rfl, Tryz.sizeOf3, rfl, Tryz.sizeOf3, rfl, Tryz.sizeOf9, trivial⟩ rfl) <| l_bsA hb_5 ?_;intro w_21 hk_22 hs_23 hb_24;refine go ?_;cases hm;replace hst := hst.kp hk_22 hs_23;exact ⟨rfl, _, rat hb_24.atN, _, rfl, hst.fin (cm [])⟩
  refine go ?_;refine lP 14 rfl rfl <| lP 14 rfl rfl <| lV (.bool true) (r_pickT rfl rfl) <| lMB rfl <| lP 18 rfl rfl <| lP 18 rfl rfl <| lP 18 rfl rfl <| lP 18 rfl rfl <| lP 18 rfl rfl <| lV (.bool true) (r_pickT rfl rfl) <| lnil ?_;exact ⟨rfl, _, hm, hst, hb_5, hb_14, hgl, rfl⟩
 | some f_15 =>
  rw [hx_16] at hm he0;replace hm := optC_some hm;refine lc rfl rfl (r_call2 Tryz.call29 rfl rfl) (as_yes hgl he0 hb_14 (k := 0) rfl rfl) ?_;rintro _ w_25 ⟨col_26, b_31, rfl, hk_27, hs_28, hb_29, hP_30⟩;refine ⟨_, rfl, ?_⟩;replace hb_29 : Box 57 2 col_26 w_25 g_10 #[(.pointer (some ⟨b_31, 0, none⟩))] := hb_29;refine lAB rfl <| lnil <| wseq <| wseq ?_;replace hgl := hgl.kp hk_27;replace hb_5 := hb_5.kp hk_27;replace hst := hst.kp hk_27 hs_28;refine Wp.cutK [2, 4, 1000000] (fun f w_50 => ∃ col_51 v_52, m_l06_told_J2 f_15 v_52 = some r ∧ St w0 (col0 col) col_51 w_50 ∧ Box 26 1 col_51 w_50 g_1 #[(.int .i64 0), (.int .i64 0), (.int .i64 0), (.string (⟨#[]⟩))] ∧ Rd (Rep.fptr 26 (Rep.pair (Rep.int .i64) (Rep.pair (Rep.int .i64) (Rep.pair (Rep.int .i64) Rep.str)))) col_51 w_50 [(.pointer (some ⟨b_31, 0, none⟩))] (some f_15) ∧ Box 57 2 col_51 w_50 g_10 #[(.pointer (some ⟨b_31, 0, none⟩))] ∧ Gl (.iface 146 (.agg #[.pointer (some ⟨4, 30, none⟩)])) col_51 w_50 ∧ [24].map f = [.bool v_52]) ?_ ?_
  ·intro f w_50 hJ;obtain ⟨col_51, v_52, hm, hst, hb_5, hP_30, hb_29, hgl, hs⟩ := hJ;rw [m_l06_told_J2.eq_1] at hm;refine .lL [24] hs ?_;refine wcb hm (fun hb hm => go ?_) fun hb hm => go ?_
   ·refine lV (.agg #[(.int .i64 0), (.int .i64 0), (.int .i64 0), (.string (⟨#[]⟩))]) (r_build (l := [_, _, _, _]) (qs := [(0, 1), (1, 1), (2, 1), (3, 1)]) Tryz.underlying26 Tryz.zeroValue26 ⟨rfl, Tryz.sizeOf24, rfl, Tryz.sizeOf3, rfl, Tryz.sizeOf3, rfl, Tryz.sizeOf9, trivial⟩ rfl) <| l_bsA hb_5 ?_;intro w_53 hk_54 hs_55 hb_56;refine go ?_;cases hm;replace hst := hst.kp hk_54 hs_55;exact ⟨rfl, _, rat hb_56.atN, _, rfl, hst.fin (cm [])⟩
   refine lW hb_29.at1 ?_;obtain ⟨_, _, hq9, hF_58, hr_59⟩ := hP_30.pS;cases hq9;obtain ⟨_, _, rfl, hp_60, hp_61⟩ := rd_pair hr_59;obtain ⟨rfl, _⟩ := hp_60;obtain ⟨_, _, rfl, hp_62, hp_63⟩ := rd_pair hp_61;obtain ⟨rfl, _⟩ := hp_62;obtain ⟨_, _, rfl, hp_64, hp_65⟩ := rd_pair hp_63;obtain ⟨rfl, _⟩ := hp_64;obtain ⟨rfl, _⟩ := hp_65;replace hF_58 : FzB 26 col_51 w_50 b_31 [(.int .i64 f_15.1), (.int .i64 f_15.2.1), (.int .i64 f_15.2.2.1), (.string f_15.2.2.2)] := hF_58;refine lV (.pointer (some ⟨b_31, 0, none⟩)) (r_nilCheck rfl) <| lV _ (r_ldB Tryz.isAgg26 Tryz.sizeOf26 hF_58) <| l_bsA hb_5 ?_;intro w_66 hk_67 hs_68 hb_69;refine go ?_;cases hm;replace hst := hst.kp hk_67 hs_68;exact ⟨rfl, _, rat hb_69.atN, _, rfl, hst.fin (cm [])⟩
  refine go ?_;refine lG 14 rfl rfl <| lW hb_29.at1 <| lG 14 rfl rfl <| lV (.bool false) (r_eqlP hP_30 Tryz.underlying57 rfl) <| lV (.bool false) (r_pickF rfl rfl) <| lMB rfl <| lG 18 rfl rfl <| lW hb_29.at1 <| lG 18 rfl rfl ?_;obtain ⟨_, _, hq9, hF_71, hr_72⟩ := hP_30.pS;cases hq9;obtain ⟨_, _, rfl, hp_73, hp_74⟩ := rd_pair hr_72;obtain ⟨rfl, _⟩ := hp_73;obtain ⟨_, _, rfl, hp_75, hp_76⟩ := rd_pair hp_74;obtain ⟨rfl, _⟩ := hp_75;obtain ⟨_, _, rfl, hp_77, hp_78⟩ := rd_pair hp_76;obtain ⟨rfl, _⟩ := hp_77;obtain ⟨rfl, _⟩ := hp_78;replace hF_71 : FzB 26 col_26 w_25 b_31 [(.int .i64 f_15.1), (.int .i64 f_15.2.1), (.int .i64 f_15.2.2.1), (.string f_15.2.2.2)] := hF_71;refine lV (.pointer (some ⟨b_31, 0, none⟩)) (r_nilCheck rfl) <| lG 18 rfl rfl <| lFa ⟨_, _, rfl⟩ ?_;refine lG 18 rfl rfl <| lW (hF_71.atN.nth (q := 0) rfl) <| lG 18 rfl rfl <| go ?_;refine lV (.bool (decide (f_15.1 = 0))) (r_pickF rfl rfl) <| lnil ?_;exact ⟨rfl, _, _, hm, hst, hb_5, hP_30, hb_29, hgl, rfl⟩
def m_lex_Name_J1 (v_29 : Bool) : Option Bool :=
  some v_29
def m_lex_Name (N : Nat) (p0_s : ByteArray) : Option Bool :=
  if (!decide (p0_s = (⟨#[]⟩))) = true then (if (decide ((p0_s.size : Int) ≤ 64)) = true then ((bat? p0_s 0).bind fun e_32 => (m_lex_letter e_32).bind fun r_34 => if r_34 = true then ((m_lex_run_v2f36 N p0_s 0).bind fun r_39 => m_lex_Name_J1 (decide (r_39 = (p0_s.size : Int)))) else (m_lex_Name_J1 false)) else (m_lex_Name_J1 false)) else (m_lex_Name_J1 false)
theorem c_lex_Name {N : Nat} {col : Col} {w0 : World} {p0_s : ByteArray} {r : Bool} (hm : m_lex_Name N p0_s = some r)  :
    Calls Tryz.prog 18 #[(.string p0_s)] w0 (fun e w' => e = .returned ((.bool r)) ∧ Below w0.heap.size w0 w') := by
 refine calls_of1 2 (m := 22) Tryz.func18 rfl rfl rfl rfl rfl ?_;rw [m_lex_Name.eq_1] at hm;have hst := St.start col w0;refine wseq <| wregion <| lAB rfl <| lnil <| wseq ?_;refine Wp.cutK [1000000] (fun f w_27 => ∃ col_28 v_29, m_lex_Name_J1 v_29 = some r ∧ St w0 (col0 col) col_28 w_27 ∧ [2].map f = [.bool v_29]) ?_ ?_
 ·intro f w_27 hJ;obtain ⟨col_28, v_29, hm, hst, hs⟩ := hJ;rw [m_lex_Name_J1.eq_1] at hm;refine .lL [2] hs <| wret ?_;cases hm;exact ⟨rfl, rfl, hst.below⟩
 refine go ?_;refine bcb hm (fun hg_30 hm => go ?_) fun hg_30 hm => go ?_
 ·refine lV (.bool (decide ((p0_s.size : Int) ≤ 64))) (r_pickT (congrArg Value.bool hg_30) rfl) <| lMB rfl ?_;refine bcb hm (fun hg_31 hm => go ?_) fun hg_31 hm => go ?_
  ·obtain ⟨e_32, hj_33, hm⟩ := bZ hm;refine lV (.int .u8 e_32) (r_indexS (s := p0_s) Tryz.underlying9 rfl rfl hj_33) <| go ?_;obtain ⟨r_34, hr_35, hm⟩ := bZ hm;refine lcA (c_lex_letter (col := (col0 col)) hr_35) ?_;rintro _ w_36 ⟨rfl, hg_37⟩;refine ⟨_, rfl, ?_⟩;replace hg_37 : Grow (col0 col) w0 (col0 col) w_36 := .of_below hg_37;refine lV (.bool r_34) (r_pickT (congrArg Value.bool hg_31) rfl) <| lMB rfl ?_;replace hst := hst.grow hg_37;refine bcb hm (fun hg_38 hm => go ?_) fun hg_38 hm => go ?_
   ·obtain ⟨r_39, hr_40, hm⟩ := bZ hm;refine lcA (c_lex_run_v2f36 (col := (col0 col)) hr_40) ?_;rintro _ w_41 ⟨rfl, hg_42⟩;refine ⟨_, rfl, ?_⟩;replace hg_42 : Grow (col0 col) w_36 (col0 col) w_41 := .of_below hg_42;refine go ?_;refine lV (.bool (decide (r_39 = (p0_s.size : Int)))) (r_pickT (congrArg Value.bool hg_38) rfl) <| go ?_;replace hst := hst.grow hg_42;exact ⟨rfl, _, _, hm, hst, rfl⟩
   refine lV (.bool false) (r_pickF (congrArg Value.bool hg_38) rfl) <| go ?_;exact ⟨rfl, _, _, hm, hst, rfl⟩
  refine lV (.bool false) (r_pickF (congrArg Value.bool hg_31) rfl) <| lMB rfl <| lP 15 rfl rfl <| lP 15 rfl rfl <| lP 15 rfl rfl <| lP 15 rfl rfl <| lP 15 rfl rfl <| lV (.bool false) (r_pickF rfl rfl) <| go ?_;exact ⟨rfl, _, _, hm, hst, rfl⟩
 refine lV (.bool false) (r_pickF (congrArg Value.bool hg_30) rfl) <| lMB rfl <| lP 10 rfl rfl <| lP 10 rfl rfl <| lP 10 rfl rfl <| lV (.bool false) (r_pickF rfl rfl) <| lMB rfl <| lP 15 rfl rfl <| lP 15 rfl rfl <| lP 15 rfl rfl <| lP 15 rfl rfl <| lP 15 rfl rfl <| lV (.bool false) (r_pickF rfl rfl) <| go ?_;exact ⟨rfl, _, _, hm, hst, rfl⟩
theorem c_lex_Quote (col : Col) (w0 : World) (p0_s : ByteArray) (r : ByteArray) (hm : m_quote p0_s = some r) :
    Calls Tryz.prog 20 #[(.string p0_s)] w0 (fun e w' => e = .returned ((.string r)) ∧ Below w0.heap.size w0 w') :=
  quote_c  col w0 p0_s r hm
def m_l06_awake_J2 (v_118 : Bool) : Option Bool :=
  some v_118
def m_l06_awake_J1 (N : Nat) (r_1 : ((List (Int × ByteArray × Int × Int)) × (Option (Int × Int × Int × ByteArray)))) (r_21 : ((Int × Int × Int × ByteArray) × Bool)) (v_41 : Bool) : Option Bool :=
  if v_41 = true then (some false) else ((at? r_1.1 1).bind fun e_119 => if (decide (e_119.1 = 3) && decide (e_119.2.1 = (⟨#[120, 34, 121]⟩)) && decide (e_119.2.2.1 = 2) && decide (e_119.2.2.2 = 1)) = true then ((at? r_1.1 3).bind fun e_130 => if (decide (e_130.1 = 0) && decide (e_130.2.1 = (⟨#[]⟩)) && decide (e_130.2.2.1 = 2) && decide (e_130.2.2.2 = 14)) = true then (if (decide (r_21.1.1 = 22) && decide (r_21.1.2.1 = 1) && decide (r_21.1.2.2.1 = 8) && decide (r_21.1.2.2.2 = (⟨#[50, 101]⟩))) = true then ((m_lex_Name N (⟨#[97, 49]⟩)).bind fun r_142 => if r_142 = true then ((m_lex_Name N (⟨#[49, 97]⟩)).bind fun r_147 => if (!r_147) = true then ((m_quote (⟨#[97]⟩)).bind fun r_152 => m_l06_awake_J2 (decide (r_152 = (⟨#[34, 97, 34]⟩)))) else (m_l06_awake_J2 false)) else (m_l06_awake_J2 false)) else (m_l06_awake_J2 false)) else (m_l06_awake_J2 false)) else (m_l06_awake_J2 false))
def m_l06_awake (N : Nat)  : Option Bool :=
  (m_lex_Scan N (⟨#[97, 10, 34, 120, 92, 34, 121, 34, 59, 32, 47, 47, 32, 115, 111]⟩)).bind fun r_1 => (m_lex_Scan N (⟨#[49, 46, 53, 101, 45, 51, 44, 50, 101]⟩)).bind fun r_11 => (m_l06_told r_11.2).bind fun r_21 => if r_1.2.isSome = true then (m_l06_awake_J1 N r_1 r_21 true) else (if (!r_21.2) = true then (m_l06_awake_J1 N r_1 r_21 true) else (m_l06_awake_J1 N r_1 r_21 (!decide ((r_1.1.length : Int) = 4))))
theorem c_l06_awake {N : Nat} {col : Col} {w0 : World} {r : Bool} (hm : m_l06_awake N = some r) (hgl : Gl (.iface 146 (.agg #[.pointer (some ⟨4, 30, none⟩)])) col w0) :
    Calls Tryz.prog 10 #[] w0 (fun e w' => e = .returned ((.bool r)) ∧ Below w0.heap.size w0 w') := by
 refine calls_of1 0 (m := 59) Tryz.func10 rfl rfl rfl rfl rfl ?_;rw [m_l06_awake.eq_1] at hm;have hst := St.start col w0;refine go ?_;obtain ⟨r_1, hr_2, hm⟩ := bZ hm;replace hgl := hgl.keep (Stay.start col w0);refine lcA (c_lex_Scan 1 hr_2 hgl) ?_;rintro _ w_8 ⟨col_10, ra_3, rc_4, rv_6, rfl, hg_9, rh_5, rh_7⟩;refine ⟨_, rfl, ?_⟩;refine lM (.tuple #[(.slice ra_3 r_1.1.length rc_4), rv_6]) <| lV (.slice ra_3 r_1.1.length rc_4) (r_extract rfl rfl) <| lv (v := rv_6) rfl rfl (r_extract rfl rfl) <| lAS rfl <| lv (v := rv_6) rfl rfl (r_assign rfl) <| go ?_;obtain ⟨r_11, hr_12, hm⟩ := bZ hm;replace hgl := hgl.gr hg_9;refine lcA (c_lex_Scan 2 hr_12 hgl) ?_;rintro _ w_18 ⟨col_20, ra_13, rc_14, rv_16, rfl, hg_19, rh_15, rh_17⟩;refine ⟨_, rfl, ?_⟩;refine lM (.tuple #[(.slice ra_13 r_11.1.length rc_14), rv_16]) <| lV (.slice ra_13 r_11.1.length rc_14) (r_extract rfl rfl) <| lv (v := rv_16) rfl rfl (r_extract rfl rfl) <| lAS rfl <| lv (v := rv_16) rfl rfl (r_assign rfl) <| go ?_;refine lv (v := rv_16) rfl rfl (r_move rfl) ?_;obtain ⟨r_21, hr_22, hm⟩ := bZ hm;replace hgl := hgl.gr hg_19;refine lcA (c_l06_told hr_22 rh_17 hgl) ?_;rintro _ w_23 ⟨col_25, rfl, hg_24⟩;refine ⟨_, rfl, ?_⟩;refine lM (.tuple #[(.agg #[(.int .i64 r_21.1.1), (.int .i64 r_21.1.2.1), (.int .i64 r_21.1.2.2.1), (.string r_21.1.2.2.2)]), (.bool r_21.2)]) <| lV (.agg #[(.int .i64 r_21.1.1), (.int .i64 r_21.1.2.1), (.int .i64 r_21.1.2.2.1), (.string r_21.1.2.2.2)]) (r_extract rfl rfl) <| lV (.bool r_21.2) (r_extract rfl rfl) <| l_allocA (col := col_25) #[(.int .i64 0), (.int .i64 0), (.int .i64 0), (.string (⟨#[]⟩))] 3 Tryz.zeroValue26 ?_;intro g_26 w_27 col_28 hg_29 hb_30;refine l_bsA hb_30 ?_;intro w_31 hk_32 hs_33 hb_34;refine lAB rfl <| lnil <| wseq <| wseq ?_;replace hst := ((((hst.grow hg_9).grow hg_19).grow hg_24).grow hg_29).kp hk_32 hs_33;replace rh_5 := (((rh_5.gr hg_19).gr hg_24).gr hg_29).kp hk_32;replace rh_7 := (((rh_7.gr hg_19).gr hg_24).gr hg_29).kp hk_32;replace hgl := ((hgl.gr hg_24).gr hg_29).kp hk_32;refine Wp.cutK [1, 5, 1000000] (fun f w_39 => ∃ col_40 v_41, m_l06_awake_J1 N r_1 r_21 v_41 = some r ∧ St w0 (col0 col) col_40 w_39 ∧ Own (Rep.pair (Rep.int .i8) (Rep.pair Rep.str (Rep.pair (Rep.int .i64) (Rep.int .i64)))) 38 1 col_40 w_39 ra_3 rc_4 r_1.1 ∧ Box 26 3 col_40 w_39 g_26 #[(.int .i64 r_21.1.1), (.int .i64 r_21.1.2.1), (.int .i64 r_21.1.2.2.1), (.string r_21.1.2.2.2)] ∧ Gl (.iface 146 (.agg #[.pointer (some ⟨4, 30, none⟩)])) col_40 w_39 ∧ [30].map f = [.bool v_41]) ?_ ?_
 ·intro f w_39 hJ;obtain ⟨col_40, v_41, hm, hst, rh_5, hb_34, hgl, hs⟩ := hJ;rw [m_l06_awake_J1.eq_1] at hm;refine .lL [30] hs ?_;refine wcb hm (fun hb hm => go ?_) fun hb hm => ?_
  ·cases hm;exact ⟨rfl, rfl, hst.below⟩
  refine wskip <| wseq ?_;refine Wp.cutK [1000000] (fun f w_116 => ∃ col_117 v_118, m_l06_awake_J2 v_118 = some r ∧ St w0 (col0 col) col_117 w_116 ∧ Gl (.iface 146 (.agg #[.pointer (some ⟨4, 30, none⟩)])) col_117 w_116 ∧ [0].map f = [.bool v_118]) ?_ ?_
  ·intro f w_116 hJ;obtain ⟨col_117, v_118, hm, hst, hgl, hs⟩ := hJ;rw [m_l06_awake_J2.eq_1] at hm;refine .lL [0] hs <| wret ?_;cases hm;exact ⟨rfl, rfl, hst.below⟩
  refine go ?_;obtain ⟨e_119, hj_120, hm⟩ := bZ hm;refine lI hj_120 (rh_5.addr hj_120) ?_;obtain ⟨_, hr_121, hA_122⟩ := rh_5.atN hj_120;obtain ⟨_, _, rfl, hp_123, hp_124⟩ := hr_121.parts;obtain rfl := hp_123.int;obtain ⟨_, _, rfl, hp_125, hp_126⟩ := hp_124.parts;obtain rfl := hp_125.str;obtain ⟨_, _, rfl, hp_127, hp_128⟩ := hp_126.parts;obtain rfl := hp_127.int;obtain rfl := hp_128.int;refine lV (.agg #[(.int .i8 e_119.1), (.string e_119.2.1), (.int .i64 e_119.2.2.1), (.int .i64 e_119.2.2.2)]) (r_ldN Tryz.isAgg38 Tryz.sizeOf38 rfl rfl hA_122) <| lV (.agg #[(.int .i8 3), (.string (⟨#[120, 34, 121]⟩)), (.int .i64 2), (.int .i64 1)]) (r_build (l := [_, _, _, _]) (qs := [(0, 1), (1, 1), (2, 1), (3, 1)]) Tryz.underlying38 Tryz.zeroValue38 ⟨rfl, Tryz.sizeOf36, rfl, Tryz.sizeOf9, rfl, Tryz.sizeOf3, rfl, Tryz.sizeOf3, trivial⟩ rfl) <| lV (.bool (decide (e_119.1 = 3) && decide (e_119.2.1 = (⟨#[120, 34, 121]⟩)) && decide (e_119.2.2.1 = 2) && decide (e_119.2.2.2 = 1))) (r_eqlA rfl rfl (by decide +kernel) (eq_struct4 Tryz.underlying38 (by decide +kernel) (by decide) (by decide) (by decide) (by decide) (r_part Tryz.isAgg36 rfl) (r_part Tryz.isAgg36 rfl) (r_part Tryz.isAgg9 rfl) (r_part Tryz.isAgg9 rfl) (r_part Tryz.isAgg3 rfl) (r_part Tryz.isAgg3 rfl) (r_part Tryz.isAgg3 rfl) (r_part Tryz.isAgg3 rfl) (peq_int e_119.1 3 Tryz.underlying36) (peq_str e_119.2.1 (⟨#[120, 34, 121]⟩) Tryz.underlying9) (peq_int e_119.2.2.1 2 Tryz.underlying3) (peq_int e_119.2.2.2 1 Tryz.underlying3))) <| lMB rfl ?_;refine bcb hm (fun hg_129 hm => go ?_) fun hg_129 hm => go ?_
  ·obtain ⟨e_130, hj_131, hm⟩ := bZ hm;refine lI hj_131 (rh_5.addr hj_131) ?_;refine go ?_;obtain ⟨_, hr_132, hA_133⟩ := rh_5.atN hj_131;obtain ⟨_, _, rfl, hp_134, hp_135⟩ := hr_132.parts;obtain rfl := hp_134.int;obtain ⟨_, _, rfl, hp_136, hp_137⟩ := hp_135.parts;obtain rfl := hp_136.str;obtain ⟨_, _, rfl, hp_138, hp_139⟩ := hp_137.parts;obtain rfl := hp_138.int;obtain rfl := hp_139.int;refine lV (.agg #[(.int .i8 e_130.1), (.string e_130.2.1), (.int .i64 e_130.2.2.1), (.int .i64 e_130.2.2.2)]) (r_ldN Tryz.isAgg38 Tryz.sizeOf38 rfl rfl hA_133) <| go ?_;refine lV (.agg #[(.int .i8 0), (.string (⟨#[]⟩)), (.int .i64 2), (.int .i64 14)]) (r_build (l := [_, _, _, _]) (qs := [(0, 1), (1, 1), (2, 1), (3, 1)]) Tryz.underlying38 Tryz.zeroValue38 ⟨rfl, Tryz.sizeOf36, rfl, Tryz.sizeOf9, rfl, Tryz.sizeOf3, rfl, Tryz.sizeOf3, trivial⟩ rfl) <| go ?_;refine lV (.bool (decide (e_130.1 = 0) && decide (e_130.2.1 = (⟨#[]⟩)) && decide (e_130.2.2.1 = 2) && decide (e_130.2.2.2 = 14))) (r_eqlA rfl rfl (by decide +kernel) (eq_struct4 Tryz.underlying38 (by decide +kernel) (by decide) (by decide) (by decide) (by decide) (r_part Tryz.isAgg36 rfl) (r_part Tryz.isAgg36 rfl) (r_part Tryz.isAgg9 rfl) (r_part Tryz.isAgg9 rfl) (r_part Tryz.isAgg3 rfl) (r_part Tryz.isAgg3 rfl) (r_part Tryz.isAgg3 rfl) (r_part Tryz.isAgg3 rfl) (peq_int e_130.1 0 Tryz.underlying36) (peq_str e_130.2.1 (⟨#[]⟩) Tryz.underlying9) (peq_int e_130.2.2.1 2 Tryz.underlying3) (peq_int e_130.2.2.2 14 Tryz.underlying3))) <| lV (.bool (decide (e_130.1 = 0) && decide (e_130.2.1 = (⟨#[]⟩)) && decide (e_130.2.2.1 = 2) && decide (e_130.2.2.2 = 14))) (r_pickT (congrArg Value.bool hg_129) rfl) <| lMB rfl ?_;refine bcb hm (fun hg_140 hm => go ?_) fun hg_140 hm => go ?_
   ·refine lV _ (r_ldB Tryz.isAgg26 Tryz.sizeOf26 hb_34) <| go ?_;refine lV (.agg #[(.int .i64 22), (.int .i64 1), (.int .i64 8), (.string (⟨#[50, 101]⟩))]) (r_build (l := [_, _, _, _]) (qs := [(0, 1), (1, 1), (2, 1), (3, 1)]) Tryz.underlying26 Tryz.zeroValue26 ⟨rfl, Tryz.sizeOf24, rfl, Tryz.sizeOf3, rfl, Tryz.sizeOf3, rfl, Tryz.sizeOf9, trivial⟩ rfl) <| go ?_;refine lV (.bool (decide (r_21.1.1 = 22) && decide (r_21.1.2.1 = 1) && decide (r_21.1.2.2.1 = 8) && decide (r_21.1.2.2.2 = (⟨#[50, 101]⟩)))) (r_eqlA rfl rfl (by decide +kernel) (eq_struct4 Tryz.underlying26 (by decide +kernel) (by decide) (by decide) (by decide) (by decide) (r_part Tryz.isAgg24 rfl) (r_part Tryz.isAgg24 rfl) (r_part Tryz.isAgg3 rfl) (r_part Tryz.isAgg3 rfl) (r_part Tryz.isAgg3 rfl) (r_part Tryz.isAgg3 rfl) (r_part Tryz.isAgg9 rfl) (r_part Tryz.isAgg9 rfl) (peq_int r_21.1.1 22 Tryz.underlying24) (peq_int r_21.1.2.1 1 Tryz.underlying3) (peq_int r_21.1.2.2.1 8 Tryz.underlying3) (peq_str r_21.1.2.2.2 (⟨#[50, 101]⟩) Tryz.underlying9))) <| lV (.bool (decide (r_21.1.1 = 22) && decide (r_21.1.2.1 = 1) && decide (r_21.1.2.2.1 = 8) && decide (r_21.1.2.2.2 = (⟨#[50, 101]⟩)))) (r_pickT (congrArg Value.bool hg_140) rfl) <| lMB rfl ?_;refine bcb hm (fun hg_141 hm => go ?_) fun hg_141 hm => go ?_
    ·obtain ⟨r_142, hr_143, hm⟩ := bZ hm;refine lcA (c_lex_Name (col := col_40) hr_143) ?_;rintro _ w_144 ⟨rfl, hg_145⟩;refine ⟨_, rfl, ?_⟩;replace hg_145 : Grow col_40 w_39 col_40 w_144 := .of_below hg_145;refine lV (.bool r_142) (r_pickT (congrArg Value.bool hg_141) rfl) <| lMB rfl ?_;replace hgl := hgl.gr hg_145;replace hst := hst.grow hg_145;refine bcb hm (fun hg_146 hm => go ?_) fun hg_146 hm => go ?_
     ·obtain ⟨r_147, hr_148, hm⟩ := bZ hm;refine lcA (c_lex_Name (col := col_40) hr_148) ?_;rintro _ w_149 ⟨rfl, hg_150⟩;refine ⟨_, rfl, ?_⟩;replace hg_150 : Grow col_40 w_144 col_40 w_149 := .of_below hg_150;refine go ?_;refine lV (.bool (!r_147)) (r_pickT (congrArg Value.bool hg_146) rfl) <| lMB rfl ?_;replace hgl := hgl.gr hg_150;replace hst := hst.grow hg_150;refine bcb hm (fun hg_151 hm => go ?_) fun hg_151 hm => go ?_
      ·obtain ⟨r_152, hr_153, hm⟩ := bZ hm;refine lcA (c_lex_Quote col_40 _ (⟨#[97]⟩) r_152 hr_153) ?_;rintro _ w_154 ⟨rfl, hg_155⟩;refine ⟨_, rfl, ?_⟩;replace hg_155 : Grow col_40 w_149 col_40 w_154 := .of_below hg_155;refine go ?_;refine lV (.bool (decide (r_152 = (⟨#[34, 97, 34]⟩)))) (r_pickT (congrArg Value.bool hg_151) rfl) <| go ?_;replace hgl := hgl.gr hg_155;replace hst := hst.grow hg_155;exact ⟨rfl, _, _, hm, hst, hgl, rfl⟩
      refine lV (.bool false) (r_pickF (congrArg Value.bool hg_151) rfl) <| go ?_;exact ⟨rfl, _, _, hm, hst, hgl, rfl⟩
     refine lV (.bool false) (r_pickF (congrArg Value.bool hg_146) rfl) <| lMB rfl <| lP 55 rfl rfl <| lP 55 rfl rfl <| lV (.bool false) (r_pickF rfl rfl) <| go ?_;exact ⟨rfl, _, _, hm, hst, hgl, rfl⟩
    refine lV (.bool false) (r_pickF (congrArg Value.bool hg_141) rfl) <| lMB rfl <| lP 51 rfl rfl <| lP 51 rfl rfl <| lV (.bool false) (r_pickF rfl rfl) <| lMB rfl <| lP 55 rfl rfl <| lP 55 rfl rfl <| lV (.bool false) (r_pickF rfl rfl) <| go ?_;exact ⟨rfl, _, _, hm, hst, hgl, rfl⟩
   refine lV (.bool false) (r_pickF (congrArg Value.bool hg_140) rfl) <| lMB rfl <| lP 48 rfl rfl <| lV (.bool false) (r_pickF rfl rfl) <| lMB rfl <| lP 51 rfl rfl <| lP 51 rfl rfl <| lV (.bool false) (r_pickF rfl rfl) <| lMB rfl <| lP 55 rfl rfl <| lP 55 rfl rfl <| lV (.bool false) (r_pickF rfl rfl) <| go ?_;exact ⟨rfl, _, _, hm, hst, hgl, rfl⟩
  refine lV (.bool false) (r_pickF (congrArg Value.bool hg_129) rfl) <| lMB rfl <| lP 43 rfl rfl <| lP 43 rfl rfl <| lP 43 rfl rfl <| lV (.bool false) (r_pickF rfl rfl) <| lMB rfl <| lP 48 rfl rfl <| lV (.bool false) (r_pickF rfl rfl) <| lMB rfl <| lP 51 rfl rfl <| lP 51 rfl rfl <| lV (.bool false) (r_pickF rfl rfl) <| lMB rfl <| lP 55 rfl rfl <| lP 55 rfl rfl <| lV (.bool false) (r_pickF rfl rfl) <| go ?_;exact ⟨rfl, _, _, hm, hst, hgl, rfl⟩
 refine wregion <| lv (v := rv_6) rfl rfl (r_move rfl) <| lV (.bool r_1.2.isSome) (r_neqE rh_7 Tryz.underlying30 rfl) <| lMB rfl ?_;refine bcb hm (fun hg_156 hm => go ?_) fun hg_156 hm => go ?_
 ·refine lV (.bool true) (r_pickT (congrArg Value.bool hg_156) rfl) <| lMB rfl <| lP 26 rfl rfl <| lP 26 rfl rfl <| lP 26 rfl rfl <| lV (.bool true) (r_pickT rfl rfl) <| lnil ?_;exact ⟨rfl, _, _, hm, hst, rh_5, hb_34, hgl, rfl⟩
 refine lV (.bool (!r_21.2)) (r_pickF (congrArg Value.bool hg_156) rfl) <| lMB rfl ?_;refine bcb hm (fun hg_157 hm => go ?_) fun hg_157 hm => go ?_
 ·refine lV (.bool true) (r_pickT (congrArg Value.bool hg_157) rfl) <| lnil ?_;exact ⟨rfl, _, _, hm, hst, rh_5, hb_34, hgl, rfl⟩
 refine lV (.bool (!decide ((r_1.1.length : Int) = 4))) (r_pickF (congrArg Value.bool hg_157) rfl) <| lnil ?_;exact ⟨rfl, _, _, hm, hst, rh_5, hb_34, hgl, rfl⟩
theorem told06_eq {e : Option FltV} (h : ∀ x, e = some x → x.1 ≠ 0) : m_l06_told e = some (fltO e, true) := by
 cases e with
 | none => rfl
 | some x =>
  rw [m_l06_told, if_neg (by exact fun e => by cases e)]
  show m_l06_told_J2 x (decide (x.1 = 0)) = _
  rw [decide_eq_false (h x rfl)]; rfl
theorem awake_true : m_l06_awake 33554467 = some true := by decide +kernel
def m_l06_walk_J2 (v_74 : Bool) : Option Bool :=
  some v_74
def m_l06_walk_J3 (v_110 : Bool) : Option Bool :=
  some v_110
def m_l06_walk_L1_X0 (p1_most : Int) (all_55 : Int) (v_67 : Bool) (n_68 : Int) : Option Bool :=
  if (decide (1 ≤ p1_most)) = true then (if (decide (n_68 = (if all_55 < p1_most then all_55 else p1_most))) = true then (m_l06_walk_J3 true) else (if (decide (p1_most < 1)) = true then (m_l06_walk_J3 (decide (n_68 = all_55))) else (m_l06_walk_J3 false))) else (if (decide (p1_most < 1)) = true then (m_l06_walk_J3 (decide (n_68 = all_55))) else (m_l06_walk_J3 false))
def m_l06_walk_L1_Xret (v_67 : Bool) (n_68 : Int) : Option Bool :=
  some v_67
def m_l06_walk_J6 (p1_most : Int) (all_55 : Int) (n_68 : Int) (kk_L1 : (Bool → Int → Option Bool)) (v_183 : Bool) : Option Bool :=
  if (decide ((IntKind.i64.wrap (n_68 + 1)) = p1_most)) = true then (m_l06_walk_L1_X0 p1_most all_55 v_183 (IntKind.i64.wrap (n_68 + 1))) else (kk_L1 v_183 (IntKind.i64.wrap (n_68 + 1)))
def m_l06_walk_J7 (p1_most : Int) (all_55 : Int) (n_68 : Int) (kk_L1 : (Bool → Int → Option Bool)) (v_180 : Bool) (v_194 : Bool) : Option Bool :=
  if v_194 = true then (m_l06_walk_L1_Xret  false n_68) else (m_l06_walk_J6 p1_most all_55 n_68 kk_L1 v_180)
def m_l06_walk_J5 (p1_most : Int) (r_11 : ((List (Int × ByteArray × Int × Int)) × (Int × Int × Int × ByteArray))) (all_55 : Int) (n_68 : Int) (kk_L1 : (Bool → Int → Option Bool)) (y_69 : (Int × ByteArray × Int × Int) × (Option (Int × Int × Int × ByteArray))) (r_155 : ((Int × Int × Int × ByteArray) × Bool)) (v_180 : Bool) : Option Bool :=
  if (decide (n_68 = (r_11.1.length : Int))) = true then (if (!(decide (y_69.1.1 = 0) && decide (y_69.1.2.1 = (⟨#[]⟩)) && decide (y_69.1.2.2.1 = 0) && decide (y_69.1.2.2.2 = 0))) = true then (m_l06_walk_J7 p1_most all_55 n_68 kk_L1 v_180 true) else (m_l06_walk_J7 p1_most all_55 n_68 kk_L1 v_180 (!(decide (r_155.1.1 = r_11.2.1) && decide (r_155.1.2.1 = r_11.2.2.1) && decide (r_155.1.2.2.1 = r_11.2.2.2.1) && decide (r_155.1.2.2.2 = r_11.2.2.2.2))))) else (m_l06_walk_J7 p1_most all_55 n_68 kk_L1 v_180 false)
def m_l06_walk_J8 (p1_most : Int) (r_11 : ((List (Int × ByteArray × Int × Int)) × (Int × Int × Int × ByteArray))) (all_55 : Int) (v_67 : Bool) (n_68 : Int) (kk_L1 : (Bool → Int → Option Bool)) (y_69 : (Int × ByteArray × Int × Int) × (Option (Int × Int × Int × ByteArray))) (r_155 : ((Int × Int × Int × ByteArray) × Bool)) (v_233 : Bool) : Option Bool :=
  if v_233 = true then (m_l06_walk_L1_Xret  false n_68) else (m_l06_walk_J5 p1_most r_11 all_55 n_68 kk_L1 y_69 r_155 v_67)
def m_l06_walk_J4 (p1_most : Int) (r_11 : ((List (Int × ByteArray × Int × Int)) × (Int × Int × Int × ByteArray))) (all_55 : Int) (v_67 : Bool) (n_68 : Int) (kk_L1 : (Bool → Int → Option Bool)) (y_69 : (Int × ByteArray × Int × Int) × (Option (Int × Int × Int × ByteArray))) (r_155 : ((Int × Int × Int × ByteArray) × Bool)) (v_173 : Bool) : Option Bool :=
  if v_173 = true then (m_l06_walk_L1_Xret  false n_68) else (if (decide (n_68 < (r_11.1.length : Int))) = true then ((at? r_11.1 n_68).bind fun e_239 => if (!(decide (y_69.1.1 = e_239.1) && decide (y_69.1.2.1 = e_239.2.1) && decide (y_69.1.2.2.1 = e_239.2.2.1) && decide (y_69.1.2.2.2 = e_239.2.2.2))) = true then (m_l06_walk_J8 p1_most r_11 all_55 v_67 n_68 kk_L1 y_69 r_155 true) else (m_l06_walk_J8 p1_most r_11 all_55 v_67 n_68 kk_L1 y_69 r_155 y_69.2.isSome)) else (m_l06_walk_J8 p1_most r_11 all_55 v_67 n_68 kk_L1 y_69 r_155 false))
def m_l06_walk_L1 (p1_most : Int) (r_11 : ((List (Int × ByteArray × Int × Int)) × (Int × Int × Int × ByteArray))) (all_55 : Int) : List ((Int × ByteArray × Int × Int) × (Option (Int × Int × Int × ByteArray))) → Bool → Int → Option Bool
  | [], v_67, n_68 => if (decide (1 ≤ p1_most)) = true then (if (decide (n_68 = (if all_55 < p1_most then all_55 else p1_most))) = true then (m_l06_walk_J2 true) else (if (decide (p1_most < 1)) = true then (m_l06_walk_J2 (decide (n_68 = all_55))) else (m_l06_walk_J2 false))) else (if (decide (p1_most < 1)) = true then (m_l06_walk_J2 (decide (n_68 = all_55))) else (m_l06_walk_J2 false))
  | y_69 :: l_70, v_67, n_68 => (m_l06_told y_69.2).bind fun r_155 => if (!r_155.2) = true then (m_l06_walk_J4 p1_most r_11 all_55 v_67 n_68 (m_l06_walk_L1 p1_most r_11 all_55 l_70) y_69 r_155 true) else (m_l06_walk_J4 p1_most r_11 all_55 v_67 n_68 (m_l06_walk_L1 p1_most r_11 all_55 l_70) y_69 r_155 (decide (all_55 ≤ n_68)))
termination_by structural x => x
def m_l06_walk_J1 (p1_most : Int) (r_11 : ((List (Int × ByteArray × Int × Int)) × (Int × Int × Int × ByteArray))) (r_37 : (List ((Int × ByteArray × Int × Int) × (Option (Int × Int × Int × ByteArray))))) (all_55 : Int) : Option Bool :=
  m_l06_walk_L1 p1_most r_11 all_55 r_37 false 0
def m_l06_walk (N : Nat) (p0_text : ByteArray) (p1_most : Int) : Option Bool :=
  (m_r06_All N p0_text).bind fun r_11 => (m_lex_Each N p0_text).bind fun r_37 => if (!decide (r_11.2.1 = 0)) = true then (m_l06_walk_J1 p1_most r_11 r_37 (IntKind.i64.wrap ((r_11.1.length : Int) + 1))) else (m_l06_walk_J1 p1_most r_11 r_37 (r_11.1.length : Int))
theorem c_l06_walk {N : Nat} {col : Col} {w0 : World} {p0_text : ByteArray} {p1_most : Int} {r : Bool} (hm : m_l06_walk N p0_text p1_most = some r) (hgl : Gl (.iface 146 (.agg #[.pointer (some ⟨4, 30, none⟩)])) col w0) :
    Calls Tryz.prog 15 #[(.string p0_text), (.int .i64 p1_most)] w0 (fun e w' => e = .returned ((.bool r)) ∧ Below w0.heap.size w0 w') := by
 refine calls_ofMR (m := 98) (args := [(.string p0_text), (.int .i64 p1_most)]) Tryz.func15 rfl rfl rfl ?_;rw [m_l06_walk.eq_1] at hm;have hst := St.start col w0;replace hgl := hgl.keep (Stay.start col w0);have hmk : Marks 499 (col0 col) w0 [] := .nil;refine go ?_;refine l_box (col := (col0 col)) (v := (.int .i64 p1_most)) 1 rfl rfl ?_;intro g_1 w_2 col_3 hg_4 hb_5;replace hb_5 : Box 3 1 col_3 w_2 g_1 #[(.int .i64 p1_most)] := hb_5;refine l_alloc (col := col_3) (v := (.bool false)) 2 rfl Tryz.zeroValue4 ?_;intro g_6 w_7 col_8 hg_9 hb_10;replace hb_10 : Box 4 2 col_8 w_7 g_6 #[(.bool false)] := hb_10;refine go ?_;obtain ⟨r_11, hr_12, hm⟩ := bZ hm;refine lcA (c_r06_All (col := col_8) 3 hr_12) ?_;rintro _ w_16 ⟨col_18, ra_13, rc_14, rfl, hg_17, rh_15⟩;refine ⟨_, rfl, ?_⟩;refine lM (.tuple #[(.slice ra_13 r_11.1.length rc_14), (.agg #[(.int .i64 r_11.2.1), (.int .i64 r_11.2.2.1), (.int .i64 r_11.2.2.2.1), (.string r_11.2.2.2.2)])]) <| lV (.slice ra_13 r_11.1.length rc_14) (r_extract rfl rfl) <| lV (.agg #[(.int .i64 r_11.2.1), (.int .i64 r_11.2.2.1), (.int .i64 r_11.2.2.2.1), (.string r_11.2.2.2.2)]) (r_extract rfl rfl) <| l_alloc (col := col_18) (v := (.slice none (([] : List (Int × ByteArray × Int × Int)).length) 0)) 4 rfl Tryz.zeroValue23 ?_;intro g_19 w_20 col_21 hg_22 hb_23;replace hb_23 : Box 23 4 col_21 w_20 g_19 #[(.slice none (([] : List (Int × ByteArray × Int × Int)).length) 0)] := hb_23;refine l_allocA (col := col_21) #[(.int .i64 0), (.int .i64 0), (.int .i64 0), (.string (⟨#[]⟩))] 5 Tryz.zeroValue26 ?_;intro g_24 w_25 col_26 hg_27 hb_28;replace hb_23 := hb_23.gr hg_27;refine l_bstore (v := (.slice ra_13 r_11.1.length rc_14)) hb_23 Tryz.sizeOf23 rfl rfl (by intro u hu; simp only [Value.cells, List.mem_cons, List.not_mem_nil, or_false] at hu; subst hu; rfl) rfl rfl ?_;intro w_29 hk_30 hs_31 hb_32;replace hb_32 : Box 23 4 col_26 w_29 g_19 #[(.slice ra_13 r_11.1.length rc_14)] := hb_32;replace hb_28 := hb_28.kp hk_30;refine l_bsA hb_28 ?_;intro w_33 hk_34 hs_35 hb_36;refine go ?_;obtain ⟨r_37, hr_38, hm⟩ := bZ hm;replace hgl := ((((((hgl.gr hg_4).gr hg_9).gr hg_17).gr hg_22).gr hg_27).kp hk_30).kp hk_34;refine lcA (c_lex_Each hr_38 hgl) ?_;rintro _ w_41 ⟨col_43, rv_39, rfl, hg_42, rh_40⟩;refine ⟨_, rfl, ?_⟩;refine lv (v := rv_39) rfl rfl (r_assign rfl) <| go ?_;refine lv (v := rv_39) rfl rfl (r_move rfl) <| lV (.bool false) (r_eqlNilF rh_40 ⟨_, _, _, Tryz.underlying42⟩ rfl) <| lnil <| wcondF rfl <| go ?_;replace hb_32 := (hb_32.kp hk_34).gr hg_42;refine lW hb_32.at1 <| go ?_;refine l_alloc (col := col_43) (v := (.int .i64 0)) 6 rfl Tryz.zeroValue3 ?_;intro g_44 w_45 col_46 hg_47 hb_48;replace hb_48 : Box 3 6 col_46 w_45 g_44 #[(.int .i64 0)] := hb_48;refine l_bstore (v := (.int .i64 (r_11.1.length : Int))) hb_48 Tryz.sizeOf3 rfl rfl (by intro u hu; simp only [Value.cells, List.mem_cons, List.not_mem_nil, or_false] at hu; subst hu; rfl) rfl rfl ?_;intro w_49 hk_50 hs_51 hb_52
 replace hb_52 : Box 3 6 col_46 w_49 g_44 #[(.int .i64 (r_11.1.length : Int))] := hb_52;refine lnil <| wseq ?_;replace hmk := (((((((((hmk.gr hg_4).gr hg_9).gr hg_17).gr hg_22).gr hg_27).kp hk_30).kp hk_34).gr hg_42).gr hg_47).kp hk_50;replace hst := (((((((((hst.grow hg_4).grow hg_9).grow hg_17).grow hg_22).grow hg_27).kp hk_30 hs_31).kp hk_34 hs_35).grow hg_42).grow hg_47).kp hk_50 hs_51;replace hb_5 := ((((((((hb_5.gr hg_9).gr hg_17).gr hg_22).gr hg_27).kp hk_30).kp hk_34).gr hg_42).gr hg_47).kp hk_50;replace hb_10 := (((((((hb_10.gr hg_17).gr hg_22).gr hg_27).kp hk_30).kp hk_34).gr hg_42).gr hg_47).kp hk_50;replace rh_15 := ((((((rh_15.gr hg_22).gr hg_27).kp hk_30).kp hk_34).gr hg_42).gr hg_47).kp hk_50;replace hgl := ((hgl.gr hg_42).gr hg_47).kp hk_50;replace hb_36 := ((hb_36.gr hg_42).gr hg_47).kp hk_50;replace rh_40 := (rh_40.gr hg_47).kp hk_50 rfl;replace hb_32 := (hb_32.gr hg_47).kp hk_50;refine Wp.cutK [3, 4, 5, 6, 7, 8, 1000000] (fun f w_53 => ∃ col_54 all_55, m_l06_walk_J1 p1_most r_11 r_37 all_55 = some r ∧ St w0 (col0 col) col_54 w_53 ∧ Box 3 1 col_54 w_53 g_1 #[(.int .i64 p1_most)] ∧ Box 4 2 col_54 w_53 g_6 #[(.bool false)] ∧ Own (Rep.pair (Rep.int .i8) (Rep.pair Rep.str (Rep.pair (Rep.int .i64) (Rep.int .i64)))) 38 3 col_54 w_53 ra_13 rc_14 r_11.1 ∧ Box 23 4 col_54 w_53 g_19 #[(.slice ra_13 r_11.1.length rc_14)] ∧ Box 26 5 col_54 w_53 g_24 #[(.int .i64 r_11.2.1), (.int .i64 r_11.2.2.1), (.int .i64 r_11.2.2.2.1), (.string r_11.2.2.2.2)] ∧ It Tryz.prog 1 rv_39 (fun (y : (Int × ByteArray × Int × Int) × (Option (Int × Int × Int × ByteArray))) (col : Col) (w : World) (args : List Value) => ∃ (v1 : Value), args = [(.agg #[(.int .i8 y.1.1), (.string y.1.2.1), (.int .i64 y.1.2.2.1), (.int .i64 y.1.2.2.2)]), v1] ∧ Rd (Rep.err 57 26 (Rep.pair (Rep.int .i64) (Rep.pair (Rep.int .i64) (Rep.pair (Rep.int .i64) Rep.str)))) col w [v1] y.2) r_37 qz col_54 w_53 ∧ Box 3 6 col_54 w_53 g_44 #[(.int .i64 all_55)] ∧ Gl (.iface 146 (.agg #[.pointer (some ⟨4, 30, none⟩)])) col_54 w_53 ∧ Marks 499 col_54 w_53 []) ?_ ?_
 ·intro f w_53 hJ;obtain ⟨col_54, all_55, hm, hst, hb_5, hb_10, rh_15, hb_32, hb_36, rh_40, hb_52, hgl, hmk⟩ := hJ;rw [m_l06_walk_J1.eq_1] at hm;refine go ?_;refine l_alloc (col := col_54) (v := (.int .i64 0)) 7 rfl Tryz.zeroValue3 ?_;intro g_56 w_57 col_58 hg_59 hb_60;replace hb_60 : Box 3 7 col_58 w_57 g_56 #[(.int .i64 0)] := hb_60;refine l_bstore (v := (.int .i64 0)) hb_60 Tryz.sizeOf3 rfl rfl (by intro u hu; simp only [Value.cells, List.mem_cons, List.not_mem_nil, or_false] at hu; subst hu; rfl) rfl rfl ?_;intro w_61 hk_62 hs_63 hb_64;replace hb_64 : Box 3 7 col_58 w_61 g_56 #[(.int .i64 0)] := hb_64;refine go ?_;refine lv (v := rv_39) rfl rfl (r_move rfl) <| go ?_;replace rh_15 := (rh_15.gr hg_59).kp hk_62;replace rh_40 := (rh_40.gr hg_59).kp hk_62 rfl;replace hgl := (hgl.gr hg_59).kp hk_62;replace hb_5 := (hb_5.gr hg_59).kp hk_62;replace hb_10 := (hb_10.gr hg_59).kp hk_62;replace hb_32 := (hb_32.gr hg_59).kp hk_62;replace hb_36 := (hb_36.gr hg_59).kp hk_62;replace hb_52 := (hb_52.gr hg_59).kp hk_62;replace hmk := (hmk.gr hg_59).kp hk_62;replace hst := (hst.grow hg_59).kp hk_62 hs_63
  refine wrange (psl := [31, 32]) (arr := (fun (y : (Int × ByteArray × Int × Int) × (Option (Int × Int × Int × ByteArray))) (col : Col) (w : World) (args : List Value) => ∃ (v1 : Value), args = [(.agg #[(.int .i8 y.1.1), (.string y.1.2.1), (.int .i64 y.1.2.2.1), (.int .i64 y.1.2.2.2)]), v1] ∧ Rd (Rep.err 57 26 (Rep.pair (Rep.int .i64) (Rep.pair (Rep.int .i64) (Rep.pair (Rep.int .i64) Rep.str)))) col w [v1] y.2)) (ys := r_37) (col := col_58) 498 rfl rh_40 rfl hmk rfl rfl (by rintro _ _ _ _ ⟨_, rfl, _⟩; rfl) (fun ys_ col_66 w_65 => ∃ (v_67 : Bool) (n_68 : Int), m_l06_walk_L1 p1_most r_11 all_55 ys_ v_67 n_68 = some r ∧ St w0 (col0 col) col_66 w_65 ∧ Box 3 1 col_66 w_65 g_1 #[(.int .i64 p1_most)] ∧ Box 4 2 col_66 w_65 g_6 #[(.bool v_67)] ∧ Own (Rep.pair (Rep.int .i8) (Rep.pair Rep.str (Rep.pair (Rep.int .i64) (Rep.int .i64)))) 38 3 col_66 w_65 ra_13 rc_14 r_11.1 ∧ Box 23 4 col_66 w_65 g_19 #[(.slice ra_13 r_11.1.length rc_14)] ∧ Box 26 5 col_66 w_65 g_24 #[(.int .i64 r_11.2.1), (.int .i64 r_11.2.2.1), (.int .i64 r_11.2.2.2.1), (.string r_11.2.2.2.2)] ∧ Box 3 6 col_66 w_65 g_44 #[(.int .i64 all_55)] ∧ Box 3 7 col_66 w_65 g_56 #[(.int .i64 n_68)] ∧ Gl (.iface 146 (.agg #[.pointer (some ⟨4, 30, none⟩)])) col_66 w_65) (fun c_ col_66 w_65 => (c_ = .exit 0 ∧ ∃ (v_67 : Bool) (n_68 : Int), m_l06_walk_L1_X0 p1_most all_55 v_67 n_68 = some r ∧ St w0 (col0 col) col_66 w_65 ∧ Box 3 1 col_66 w_65 g_1 #[(.int .i64 p1_most)] ∧ Box 4 2 col_66 w_65 g_6 #[(.bool v_67)] ∧ Own (Rep.pair (Rep.int .i8) (Rep.pair Rep.str (Rep.pair (Rep.int .i64) (Rep.int .i64)))) 38 3 col_66 w_65 ra_13 rc_14 r_11.1 ∧ Box 23 4 col_66 w_65 g_19 #[(.slice ra_13 r_11.1.length rc_14)] ∧ Box 26 5 col_66 w_65 g_24 #[(.int .i64 r_11.2.1), (.int .i64 r_11.2.2.1), (.int .i64 r_11.2.2.2.1), (.string r_11.2.2.2.2)] ∧ Box 3 6 col_66 w_65 g_44 #[(.int .i64 all_55)] ∧ Box 3 7 col_66 w_65 g_56 #[(.int .i64 n_68)] ∧ Gl (.iface 146 (.agg #[.pointer (some ⟨4, 30, none⟩)])) col_66 w_65) ∨ (c_ = .ret ∧ ∃ (v_67 : Bool) (n_68 : Int), m_l06_walk_L1_Xret  v_67 n_68 = some r ∧ St w0 (col0 col) col_66 w_65 ∧ Box 3 1 col_66 w_65 g_1 #[(.int .i64 p1_most)] ∧ Box 4 2 col_66 w_65 g_6 #[(.bool v_67)] ∧ Own (Rep.pair (Rep.int .i8) (Rep.pair Rep.str (Rep.pair (Rep.int .i64) (Rep.int .i64)))) 38 3 col_66 w_65 ra_13 rc_14 r_11.1 ∧ Box 23 4 col_66 w_65 g_19 #[(.slice ra_13 r_11.1.length rc_14)] ∧ Box 26 5 col_66 w_65 g_24 #[(.int .i64 r_11.2.1), (.int .i64 r_11.2.2.1), (.int .i64 r_11.2.2.2.1), (.string r_11.2.2.2.2)] ∧ Box 3 6 col_66 w_65 g_44 #[(.int .i64 all_55)] ∧ Box 3 7 col_66 w_65 g_56 #[(.int .i64 n_68)] ∧ Gl (.iface 146 (.agg #[.pointer (some ⟨4, 30, none⟩)])) col_66 w_65)) ?_ ?_ ⟨false, 0, hm, hst, hb_5, hb_10, rh_15, hb_32, hb_36, hb_52, hb_64, hgl⟩ ?_ ?_ ?_
  ·intro ys_ col_66 w_65 col2_ w2_ hJ hk;obtain ⟨v_67, n_68, hm, hst, hb_5, hb_10, rh_15, hb_32, hb_36, hb_52, hb_64, hgl⟩ := hJ;exact ⟨v_67, n_68, hm, hst.kpp hk rfl rfl, hb_5.kpp hk rfl, hb_10.kpp hk rfl, rh_15.kpp hk rfl rfl, hb_32.kpp hk rfl, hb_36.kpp hk rfl, hb_52.kpp hk rfl, hb_64.kpp hk rfl, hgl.kpp hk rfl⟩
  ·intro c_ col_66 w_65 col2_ w2_ hX hk;rcases hX with ⟨rfl, hX⟩ | ⟨rfl, hX⟩
   ·obtain ⟨v_67, n_68, hm, hst, hb_5, hb_10, rh_15, hb_32, hb_36, hb_52, hb_64, hgl⟩ := hX;exact .inl (⟨rfl, ⟨v_67, n_68, hm, hst.kpp hk rfl rfl, hb_5.kpp hk rfl, hb_10.kpp hk rfl, rh_15.kpp hk rfl rfl, hb_32.kpp hk rfl, hb_36.kpp hk rfl, hb_52.kpp hk rfl, hb_64.kpp hk rfl, hgl.kpp hk rfl⟩⟩)
   obtain ⟨v_67, n_68, hm, hst, hb_5, hb_10, rh_15, hb_32, hb_36, hb_52, hb_64, hgl⟩ := hX;exact .inr (⟨rfl, ⟨v_67, n_68, hm, hst.kpp hk rfl rfl, hb_5.kpp hk rfl, hb_10.kpp hk rfl, rh_15.kpp hk rfl rfl, hb_32.kpp hk rfl, hb_36.kpp hk rfl, hb_52.kpp hk rfl, hb_64.kpp hk rfl, hgl.kpp hk rfl⟩⟩)
  ·intro l_102 rc_103 ds_104 y_69 l_70 col_66 w_65 args hJ hrec hmk harr;obtain ⟨v_67, n_68, hm, hst, hb_5, hb_10, rh_15, hb_32, hb_36, hb_52, hb_64, hgl⟩ := hJ;rw [m_l06_walk_L1.eq_2] at hm;have hki := KeepP.refl (pC 1) col_66 w_65;obtain ⟨v_105, rfl, h_106⟩ := harr;refine go ?_;refine l_allocA (col := col_66) #[(.int .i8 0), (.string (⟨#[]⟩)), (.int .i64 0), (.int .i64 0)] 8 Tryz.zeroValue38 ?_;intro g_142 w_143 col_144 hg_145 hb_146;refine l_bsA hb_146 ?_;intro w_147 hk_148 hs_149 hb_150;refine go ?_;refine lv (v := v_105) rfl rfl (r_assign rfl) <| lnil ?_;replace hrec := (hrec.gr hg_145).kp hk_148;refine ⟨_, hrec, ?_⟩;intro w_151 rc_152 hk_153 hs_154 hrec2;have hrec := hrec2;refine go ?_;refine lv (v := v_105) rfl rfl (r_move rfl) ?_;obtain ⟨r_155, hr_156, hm⟩ := bZ hm;replace hgl := ((hgl.gr hg_145).kp hk_148).kp hk_153;replace h_106 := ((h_106.gr hg_145).kp hk_148).kp hk_153;refine lcA (c_l06_told hr_156 h_106 hgl) ?_;rintro _ w_157 ⟨col_159, rfl, hg_158⟩;refine ⟨_, rfl, ?_⟩;refine lM (.tuple #[(.agg #[(.int .i64 r_155.1.1), (.int .i64 r_155.1.2.1), (.int .i64 r_155.1.2.2.1), (.string r_155.1.2.2.2)]), (.bool r_155.2)]) <| lV (.agg #[(.int .i64 r_155.1.1), (.int .i64 r_155.1.2.1), (.int .i64 r_155.1.2.2.1), (.string r_155.1.2.2.2)]) (r_extract rfl rfl) <| lV (.bool r_155.2) (r_extract rfl rfl) <| l_allocA (col := col_159) #[(.int .i64 0), (.int .i64 0), (.int .i64 0), (.string (⟨#[]⟩))] 9 Tryz.zeroValue26 ?_;intro g_160 w_161 col_162 hg_163 hb_164;refine l_bsA hb_164 ?_;intro w_165 hk_166 hs_167 hb_168;refine lAB rfl <| lnil <| wseq <| wseq ?_;replace rh_15 := (((((rh_15.gr hg_145).kp hk_148).kp hk_153).gr hg_158).gr hg_163).kp hk_166;replace hb_5 := (((((hb_5.gr hg_145).kp hk_148).kp hk_153).gr hg_158).gr hg_163).kp hk_166;replace hb_10 := (((((hb_10.gr hg_145).kp hk_148).kp hk_153).gr hg_158).gr hg_163).kp hk_166;replace hb_32 := (((((hb_32.gr hg_145).kp hk_148).kp hk_153).gr hg_158).gr hg_163).kp hk_166;replace hb_36 := (((((hb_36.gr hg_145).kp hk_148).kp hk_153).gr hg_158).gr hg_163).kp hk_166;replace hb_52 := (((((hb_52.gr hg_145).kp hk_148).kp hk_153).gr hg_158).gr hg_163).kp hk_166;replace hb_64 := (((((hb_64.gr hg_145).kp hk_148).kp hk_153).gr hg_158).gr hg_163).kp hk_166;replace hmk := (((((hmk.gr hg_145).kp hk_148).kp hk_153).gr hg_158).gr hg_163).kp hk_166;replace hki := (((((hki.gr hg_145).kp hk_148 hs_149 rfl).kp hk_153 hs_154 rfl).gr hg_158).gr hg_163).kp hk_166 hs_167 rfl;replace hst := (((((hst.grow hg_145).kp hk_148 hs_149).kp hk_153 hs_154).grow hg_158).grow hg_163).kp hk_166 hs_167;replace hb_150 := (((hb_150.kp hk_153).gr hg_158).gr hg_163).kp hk_166;replace hgl := ((hgl.gr hg_158).gr hg_163).kp hk_166;replace h_106 := ((h_106.gr hg_158).gr hg_163).kp hk_166;replace hrec := ((hrec.gr hg_158).gr hg_163).kp hk_166
   refine Wp.cutK [10, 11, 12, 3, 4, 5, 6, 8, 9, 1000000] (fun f w_171 => ∃ col_172 v_173, m_l06_walk_J4 p1_most r_11 all_55 v_67 n_68 (m_l06_walk_L1 p1_most r_11 all_55 l_70) y_69 r_155 v_173 = some r ∧ St w0 (col0 col) col_172 w_171 ∧ Box 38 8 col_172 w_171 g_142 #[(.int .i8 y_69.1.1), (.string y_69.1.2.1), (.int .i64 y_69.1.2.2.1), (.int .i64 y_69.1.2.2.2)] ∧ Rd (Rep.err 57 26 (Rep.pair (Rep.int .i64) (Rep.pair (Rep.int .i64) (Rep.pair (Rep.int .i64) Rep.str)))) col_172 w_171 [v_105] y_69.2 ∧ Box 26 9 col_172 w_171 g_160 #[(.int .i64 r_155.1.1), (.int .i64 r_155.1.2.1), (.int .i64 r_155.1.2.2.1), (.string r_155.1.2.2.2)] ∧ Box 3 1 col_172 w_171 g_1 #[(.int .i64 p1_most)] ∧ Box 4 2 col_172 w_171 g_6 #[(.bool v_67)] ∧ Own (Rep.pair (Rep.int .i8) (Rep.pair Rep.str (Rep.pair (Rep.int .i64) (Rep.int .i64)))) 38 3 col_172 w_171 ra_13 rc_14 r_11.1 ∧ Box 23 4 col_172 w_171 g_19 #[(.slice ra_13 r_11.1.length rc_14)] ∧ Box 26 5 col_172 w_171 g_24 #[(.int .i64 r_11.2.1), (.int .i64 r_11.2.2.1), (.int .i64 r_11.2.2.2.1), (.string r_11.2.2.2.2)] ∧ Box 3 6 col_172 w_171 g_44 #[(.int .i64 all_55)] ∧ Box 3 7 col_172 w_171 g_56 #[(.int .i64 n_68)] ∧ Gl (.iface 146 (.agg #[.pointer (some ⟨4, 30, none⟩)])) col_172 w_171 ∧ Rec 498 col_172 w_171 l_102 rc_152 ∧ Marks 499 col_172 w_171 ds_104 ∧ KeepP (pC 1) col_66 w_65 col_172 w_171 ∧ [44].map f = [.bool v_173]) ?_ ?_
   ·intro f w_171 hJ;obtain ⟨col_172, v_173, hm, hst, hb_150, h_106, hb_168, hb_5, hb_10, rh_15, hb_32, hb_36, hb_52, hb_64, hgl, hrec, hmk, hki, hs⟩ := hJ;rw [m_l06_walk_J4.eq_1] at hm;refine .lL [44] hs ?_;refine wcb hm (fun hb hm => go ?_) fun hb hm => ?_
    ·refine l_bstore (v := (.bool false)) hb_10 Tryz.sizeOf4 rfl rfl (by intro u hu; simp only [Value.cells, List.mem_cons, List.not_mem_nil, or_false] at hu; subst hu; rfl) rfl rfl ?_;intro w_174 hk_175 hs_176 hb_177;replace hb_177 : Box 4 2 col_172 w_174 g_6 #[(.bool false)] := hb_177;refine go ?_;replace rh_15 := rh_15.kp hk_175;replace hgl := hgl.kp hk_175;replace hb_5 := hb_5.kp hk_175;replace hb_32 := hb_32.kp hk_175;replace hb_36 := hb_36.kp hk_175;replace hb_52 := hb_52.kp hk_175;replace hb_64 := hb_64.kp hk_175;replace hrec := hrec.kp hk_175;replace hmk := hmk.kp hk_175;replace hki := hki.kp hk_175 hs_176 rfl;replace hst := hst.kp hk_175 hs_176;exact ⟨_, hki, .inr (⟨rfl, ⟨false, n_68, hm, hst, hb_5, hb_177, rh_15, hb_32, hb_36, hb_52, hb_64, hgl⟩⟩), hrec, hmk⟩
    refine wskip <| wseq ?_;refine Wp.cutK [10, 12, 3, 4, 5, 6, 8, 9, 1000000] (fun f w_178 => ∃ col_179 v_180, m_l06_walk_J5 p1_most r_11 all_55 n_68 (m_l06_walk_L1 p1_most r_11 all_55 l_70) y_69 r_155 v_180 = some r ∧ St w0 (col0 col) col_179 w_178 ∧ Box 38 8 col_179 w_178 g_142 #[(.int .i8 y_69.1.1), (.string y_69.1.2.1), (.int .i64 y_69.1.2.2.1), (.int .i64 y_69.1.2.2.2)] ∧ Box 26 9 col_179 w_178 g_160 #[(.int .i64 r_155.1.1), (.int .i64 r_155.1.2.1), (.int .i64 r_155.1.2.2.1), (.string r_155.1.2.2.2)] ∧ Box 3 1 col_179 w_178 g_1 #[(.int .i64 p1_most)] ∧ Box 4 2 col_179 w_178 g_6 #[(.bool v_180)] ∧ Own (Rep.pair (Rep.int .i8) (Rep.pair Rep.str (Rep.pair (Rep.int .i64) (Rep.int .i64)))) 38 3 col_179 w_178 ra_13 rc_14 r_11.1 ∧ Box 23 4 col_179 w_178 g_19 #[(.slice ra_13 r_11.1.length rc_14)] ∧ Box 26 5 col_179 w_178 g_24 #[(.int .i64 r_11.2.1), (.int .i64 r_11.2.2.1), (.int .i64 r_11.2.2.2.1), (.string r_11.2.2.2.2)] ∧ Box 3 6 col_179 w_178 g_44 #[(.int .i64 all_55)] ∧ Box 3 7 col_179 w_178 g_56 #[(.int .i64 n_68)] ∧ Gl (.iface 146 (.agg #[.pointer (some ⟨4, 30, none⟩)])) col_179 w_178 ∧ Rec 498 col_179 w_178 l_102 rc_152 ∧ Marks 499 col_179 w_178 ds_104 ∧ KeepP (pC 1) col_66 w_65 col_179 w_178) ?_ ?_
    ·intro f w_178 hJ;obtain ⟨col_179, v_180, hm, hst, hb_150, hb_168, hb_5, hb_10, rh_15, hb_32, hb_36, hb_52, hb_64, hgl, hrec, hmk, hki⟩ := hJ;rw [m_l06_walk_J5.eq_1] at hm;refine wseq ?_;refine Wp.cutK [3, 4, 5, 6, 8, 9, 1000000] (fun f w_181 => ∃ col_182 v_183, m_l06_walk_J6 p1_most all_55 n_68 (m_l06_walk_L1 p1_most r_11 all_55 l_70) v_183 = some r ∧ St w0 (col0 col) col_182 w_181 ∧ Box 3 1 col_182 w_181 g_1 #[(.int .i64 p1_most)] ∧ Box 4 2 col_182 w_181 g_6 #[(.bool v_183)] ∧ Own (Rep.pair (Rep.int .i8) (Rep.pair Rep.str (Rep.pair (Rep.int .i64) (Rep.int .i64)))) 38 3 col_182 w_181 ra_13 rc_14 r_11.1 ∧ Box 23 4 col_182 w_181 g_19 #[(.slice ra_13 r_11.1.length rc_14)] ∧ Box 26 5 col_182 w_181 g_24 #[(.int .i64 r_11.2.1), (.int .i64 r_11.2.2.1), (.int .i64 r_11.2.2.2.1), (.string r_11.2.2.2.2)] ∧ Box 3 6 col_182 w_181 g_44 #[(.int .i64 all_55)] ∧ Box 3 7 col_182 w_181 g_56 #[(.int .i64 n_68)] ∧ Gl (.iface 146 (.agg #[.pointer (some ⟨4, 30, none⟩)])) col_182 w_181 ∧ Rec 498 col_182 w_181 l_102 rc_152 ∧ Marks 499 col_182 w_181 ds_104 ∧ KeepP (pC 1) col_66 w_65 col_182 w_181) ?_ ?_
     ·intro f w_181 hJ;obtain ⟨col_182, v_183, hm, hst, hb_5, hb_10, rh_15, hb_32, hb_36, hb_52, hb_64, hgl, hrec, hmk, hki⟩ := hJ;rw [m_l06_walk_J6.eq_1] at hm;refine go ?_;refine lW hb_64.at1 <| go ?_;refine l_bstore (v := (.int .i64 (IntKind.i64.wrap (n_68 + 1)))) hb_64 Tryz.sizeOf3 rfl rfl (by intro u hu; simp only [Value.cells, List.mem_cons, List.not_mem_nil, or_false] at hu; subst hu; rfl) rfl rfl ?_;intro w_184 hk_185 hs_186 hb_187;replace hb_187 : Box 3 7 col_182 w_184 g_56 #[(.int .i64 (IntKind.i64.wrap (n_68 + 1)))] := hb_187;refine go ?_;refine lW hb_187.at1 ?_;replace hb_5 := hb_5.kp hk_185;refine lW hb_5.at1 <| go ?_;replace rh_15 := rh_15.kp hk_185;replace hgl := hgl.kp hk_185;replace hb_10 := hb_10.kp hk_185;replace hb_32 := hb_32.kp hk_185;replace hb_36 := hb_36.kp hk_185;replace hb_52 := hb_52.kp hk_185;replace hrec := hrec.kp hk_185;replace hmk := hmk.kp hk_185;replace hki := hki.kp hk_185 hs_186 rfl;replace hst := hst.kp hk_185 hs_186;refine wcb hm (fun hb hm => ?_) fun hb hm => ?_
      ·refine wexit (inB_miss rfl (?_));exact ⟨_, hki, .inl (⟨rfl, ⟨v_183, (IntKind.i64.wrap (n_68 + 1)), hm, hst, hb_5, hb_10, rh_15, hb_32, hb_36, hb_52, hb_187, hgl⟩⟩), hrec, hmk⟩
      refine wskip ?_;exact ⟨_, hki, ⟨v_183, (IntKind.i64.wrap (n_68 + 1)), hm, hst, hb_5, hb_10, rh_15, hb_32, hb_36, hb_52, hb_187, hgl⟩, hrec, hmk⟩
     refine wseq ?_;refine Wp.cutK [3, 4, 5, 6, 8, 9, 1000000] (fun f w_192 => ∃ col_193 v_194, m_l06_walk_J7 p1_most all_55 n_68 (m_l06_walk_L1 p1_most r_11 all_55 l_70) v_180 v_194 = some r ∧ St w0 (col0 col) col_193 w_192 ∧ Box 3 1 col_193 w_192 g_1 #[(.int .i64 p1_most)] ∧ Box 4 2 col_193 w_192 g_6 #[(.bool v_180)] ∧ Own (Rep.pair (Rep.int .i8) (Rep.pair Rep.str (Rep.pair (Rep.int .i64) (Rep.int .i64)))) 38 3 col_193 w_192 ra_13 rc_14 r_11.1 ∧ Box 23 4 col_193 w_192 g_19 #[(.slice ra_13 r_11.1.length rc_14)] ∧ Box 26 5 col_193 w_192 g_24 #[(.int .i64 r_11.2.1), (.int .i64 r_11.2.2.1), (.int .i64 r_11.2.2.2.1), (.string r_11.2.2.2.2)] ∧ Box 3 6 col_193 w_192 g_44 #[(.int .i64 all_55)] ∧ Box 3 7 col_193 w_192 g_56 #[(.int .i64 n_68)] ∧ Gl (.iface 146 (.agg #[.pointer (some ⟨4, 30, none⟩)])) col_193 w_192 ∧ Rec 498 col_193 w_192 l_102 rc_152 ∧ Marks 499 col_193 w_192 ds_104 ∧ KeepP (pC 1) col_66 w_65 col_193 w_192 ∧ [74].map f = [.bool v_194]) ?_ ?_
     ·intro f w_192 hJ;obtain ⟨col_193, v_194, hm, hst, hb_5, hb_10, rh_15, hb_32, hb_36, hb_52, hb_64, hgl, hrec, hmk, hki, hs⟩ := hJ;rw [m_l06_walk_J7.eq_1] at hm;refine .lL [74] hs ?_;refine wcb hm (fun hb hm => go ?_) fun hb hm => ?_
      ·refine l_bstore (v := (.bool false)) hb_10 Tryz.sizeOf4 rfl rfl (by intro u hu; simp only [Value.cells, List.mem_cons, List.not_mem_nil, or_false] at hu; subst hu; rfl) rfl rfl ?_;intro w_195 hk_196 hs_197 hb_198;replace hb_198 : Box 4 2 col_193 w_195 g_6 #[(.bool false)] := hb_198;refine go ?_;replace rh_15 := rh_15.kp hk_196;replace hgl := hgl.kp hk_196;replace hb_5 := hb_5.kp hk_196;replace hb_32 := hb_32.kp hk_196;replace hb_36 := hb_36.kp hk_196;replace hb_52 := hb_52.kp hk_196;replace hb_64 := hb_64.kp hk_196;replace hrec := hrec.kp hk_196;replace hmk := hmk.kp hk_196;replace hki := hki.kp hk_196 hs_197 rfl;replace hst := hst.kp hk_196 hs_197;exact ⟨_, hki, .inr (⟨rfl, ⟨false, n_68, hm, hst, hb_5, hb_198, rh_15, hb_32, hb_36, hb_52, hb_64, hgl⟩⟩), hrec, hmk⟩
      refine wskip ?_;exact ⟨rfl, _, _, hm, hst, hb_5, hb_10, rh_15, hb_32, hb_36, hb_52, hb_64, hgl, hrec, hmk, hki⟩
     refine wregion <| lW hb_64.at1 <| lW hb_32.at1 <| go ?_;refine bcb hm (fun hg_199 hm => go ?_) fun hg_199 hm => go ?_
     ·refine lV _ (r_ldB Tryz.isAgg38 Tryz.sizeOf38 hb_150) <| go ?_;refine lV (.agg #[(.int .i8 0), (.string (⟨#[]⟩)), (.int .i64 0), (.int .i64 0)]) (r_build (l := [_, _, _, _]) (qs := [(0, 1), (1, 1), (2, 1), (3, 1)]) Tryz.underlying38 Tryz.zeroValue38 ⟨rfl, Tryz.sizeOf36, rfl, Tryz.sizeOf9, rfl, Tryz.sizeOf3, rfl, Tryz.sizeOf3, trivial⟩ rfl) <| go ?_;refine lV (.bool (!(decide (y_69.1.1 = 0) && decide (y_69.1.2.1 = (⟨#[]⟩)) && decide (y_69.1.2.2.1 = 0) && decide (y_69.1.2.2.2 = 0)))) (r_neqA rfl rfl (by decide +kernel) (eq_struct4 Tryz.underlying38 (by decide +kernel) (by decide) (by decide) (by decide) (by decide) (r_part Tryz.isAgg36 rfl) (r_part Tryz.isAgg36 rfl) (r_part Tryz.isAgg9 rfl) (r_part Tryz.isAgg9 rfl) (r_part Tryz.isAgg3 rfl) (r_part Tryz.isAgg3 rfl) (r_part Tryz.isAgg3 rfl) (r_part Tryz.isAgg3 rfl) (peq_int y_69.1.1 0 Tryz.underlying36) (peq_str y_69.1.2.1 (⟨#[]⟩) Tryz.underlying9) (peq_int y_69.1.2.2.1 0 Tryz.underlying3) (peq_int y_69.1.2.2.2 0 Tryz.underlying3))) <| go ?_;refine bcb hm (fun hg_200 hm => go ?_) fun hg_200 hm => go ?_
      ·refine lV (.bool true) (r_pickT (congrArg Value.bool hg_200) rfl) <| lV (.bool true) (r_pickT (congrArg Value.bool hg_199) rfl) <| lnil ?_;exact ⟨rfl, _, _, hm, hst, hb_5, hb_10, rh_15, hb_32, hb_36, hb_52, hb_64, hgl, hrec, hmk, hki, rfl⟩
      refine lV _ (r_ldB Tryz.isAgg26 Tryz.sizeOf26 hb_168) <| go ?_;refine lV _ (r_ldB Tryz.isAgg26 Tryz.sizeOf26 hb_36) <| go ?_;refine lV (.bool (!(decide (r_155.1.1 = r_11.2.1) && decide (r_155.1.2.1 = r_11.2.2.1) && decide (r_155.1.2.2.1 = r_11.2.2.2.1) && decide (r_155.1.2.2.2 = r_11.2.2.2.2)))) (r_neqA rfl rfl (by decide +kernel) (eq_struct4 Tryz.underlying26 (by decide +kernel) (by decide) (by decide) (by decide) (by decide) (r_part Tryz.isAgg24 rfl) (r_part Tryz.isAgg24 rfl) (r_part Tryz.isAgg3 rfl) (r_part Tryz.isAgg3 rfl) (r_part Tryz.isAgg3 rfl) (r_part Tryz.isAgg3 rfl) (r_part Tryz.isAgg9 rfl) (r_part Tryz.isAgg9 rfl) (peq_int r_155.1.1 r_11.2.1 Tryz.underlying24) (peq_int r_155.1.2.1 r_11.2.2.1 Tryz.underlying3) (peq_int r_155.1.2.2.1 r_11.2.2.2.1 Tryz.underlying3) (peq_str r_155.1.2.2.2 r_11.2.2.2.2 Tryz.underlying9))) <| go ?_;refine lV (.bool (!(decide (r_155.1.1 = r_11.2.1) && decide (r_155.1.2.1 = r_11.2.2.1) && decide (r_155.1.2.2.1 = r_11.2.2.2.1) && decide (r_155.1.2.2.2 = r_11.2.2.2.2)))) (r_pickF (congrArg Value.bool hg_200) rfl) <| lV (.bool (!(decide (r_155.1.1 = r_11.2.1) && decide (r_155.1.2.1 = r_11.2.2.1) && decide (r_155.1.2.2.1 = r_11.2.2.2.1) && decide (r_155.1.2.2.2 = r_11.2.2.2.2)))) (r_pickT (congrArg Value.bool hg_199) rfl) <| lnil ?_;exact ⟨rfl, _, _, hm, hst, hb_5, hb_10, rh_15, hb_32, hb_36, hb_52, hb_64, hgl, hrec, hmk, hki, rfl⟩
     refine lpU 69 rfl rfl rfl rfl <| lpU 69 rfl rfl rfl rfl <| lpU 69 rfl rfl rfl rfl <| go ?_;refine lV (.bool false) (r_pickF (congrArg Value.bool hg_199) rfl) <| lnil ?_;exact ⟨rfl, _, _, hm, hst, hb_5, hb_10, rh_15, hb_32, hb_36, hb_52, hb_64, hgl, hrec, hmk, hki, rfl⟩
    refine wseq ?_;refine Wp.cutK [10, 12, 3, 4, 5, 6, 8, 9, 1000000] (fun f w_231 => ∃ col_232 v_233, m_l06_walk_J8 p1_most r_11 all_55 v_67 n_68 (m_l06_walk_L1 p1_most r_11 all_55 l_70) y_69 r_155 v_233 = some r ∧ St w0 (col0 col) col_232 w_231 ∧ Box 38 8 col_232 w_231 g_142 #[(.int .i8 y_69.1.1), (.string y_69.1.2.1), (.int .i64 y_69.1.2.2.1), (.int .i64 y_69.1.2.2.2)] ∧ Box 26 9 col_232 w_231 g_160 #[(.int .i64 r_155.1.1), (.int .i64 r_155.1.2.1), (.int .i64 r_155.1.2.2.1), (.string r_155.1.2.2.2)] ∧ Box 3 1 col_232 w_231 g_1 #[(.int .i64 p1_most)] ∧ Box 4 2 col_232 w_231 g_6 #[(.bool v_67)] ∧ Own (Rep.pair (Rep.int .i8) (Rep.pair Rep.str (Rep.pair (Rep.int .i64) (Rep.int .i64)))) 38 3 col_232 w_231 ra_13 rc_14 r_11.1 ∧ Box 23 4 col_232 w_231 g_19 #[(.slice ra_13 r_11.1.length rc_14)] ∧ Box 26 5 col_232 w_231 g_24 #[(.int .i64 r_11.2.1), (.int .i64 r_11.2.2.1), (.int .i64 r_11.2.2.2.1), (.string r_11.2.2.2.2)] ∧ Box 3 6 col_232 w_231 g_44 #[(.int .i64 all_55)] ∧ Box 3 7 col_232 w_231 g_56 #[(.int .i64 n_68)] ∧ Gl (.iface 146 (.agg #[.pointer (some ⟨4, 30, none⟩)])) col_232 w_231 ∧ Rec 498 col_232 w_231 l_102 rc_152 ∧ Marks 499 col_232 w_231 ds_104 ∧ KeepP (pC 1) col_66 w_65 col_232 w_231 ∧ [60].map f = [.bool v_233]) ?_ ?_
    ·intro f w_231 hJ;obtain ⟨col_232, v_233, hm, hst, hb_150, hb_168, hb_5, hb_10, rh_15, hb_32, hb_36, hb_52, hb_64, hgl, hrec, hmk, hki, hs⟩ := hJ;rw [m_l06_walk_J8.eq_1] at hm;refine .lL [60] hs ?_;refine wcb hm (fun hb hm => go ?_) fun hb hm => ?_
     ·refine l_bstore (v := (.bool false)) hb_10 Tryz.sizeOf4 rfl rfl (by intro u hu; simp only [Value.cells, List.mem_cons, List.not_mem_nil, or_false] at hu; subst hu; rfl) rfl rfl ?_;intro w_234 hk_235 hs_236 hb_237;replace hb_237 : Box 4 2 col_232 w_234 g_6 #[(.bool false)] := hb_237;refine go ?_;replace rh_15 := rh_15.kp hk_235;replace hgl := hgl.kp hk_235;replace hb_5 := hb_5.kp hk_235;replace hb_32 := hb_32.kp hk_235;replace hb_36 := hb_36.kp hk_235;replace hb_52 := hb_52.kp hk_235;replace hb_64 := hb_64.kp hk_235;replace hrec := hrec.kp hk_235;replace hmk := hmk.kp hk_235;replace hki := hki.kp hk_235 hs_236 rfl;replace hst := hst.kp hk_235 hs_236;exact ⟨_, hki, .inr (⟨rfl, ⟨false, n_68, hm, hst, hb_5, hb_237, rh_15, hb_32, hb_36, hb_52, hb_64, hgl⟩⟩), hrec, hmk⟩
     refine wskip ?_;exact ⟨rfl, _, _, hm, hst, hb_150, hb_168, hb_5, hb_10, rh_15, hb_32, hb_36, hb_52, hb_64, hgl, hrec, hmk, hki⟩
    refine wquiet (col := col_172) (by kernel_rfl) (by kernel_rfl) <| qW (fun _ hC => hb_64.at1.gr (hC.bl col_172)) ?_;refine qW (fun _ hC => hb_32.at1.gr (hC.bl col_172)) ?_;refine go ?_;refine bcb hm (fun hg_238 hm => go ?_) fun hg_238 hm => go ?_
    ·refine qv rfl (fun _ hC => r_ldB Tryz.isAgg38 Tryz.sizeOf38 (hb_150.gr (hC.bl col_172))) ?_;refine go ?_;refine qW (fun _ hC => hb_32.at1.gr (hC.bl col_172)) ?_;refine go ?_;refine qW (fun _ hC => hb_64.at1.gr (hC.bl col_172)) ?_;refine go ?_;obtain ⟨e_239, hj_240, hm⟩ := bZ hm;refine qI hj_240 (rh_15.addr hj_240) ?_;refine go ?_;obtain ⟨_, hr_241, hA_242⟩ := rh_15.atN hj_240;obtain ⟨_, _, rfl, hp_243, hp_244⟩ := hr_241.parts;obtain rfl := hp_243.int;obtain ⟨_, _, rfl, hp_245, hp_246⟩ := hp_244.parts;obtain rfl := hp_245.str;obtain ⟨_, _, rfl, hp_247, hp_248⟩ := hp_246.parts;obtain rfl := hp_247.int;obtain rfl := hp_248.int;refine qv (v := (.agg #[(.int .i8 e_239.1), (.string e_239.2.1), (.int .i64 e_239.2.2.1), (.int .i64 e_239.2.2.2)])) rfl (fun _ hC => r_ldN Tryz.isAgg38 Tryz.sizeOf38 rfl rfl (hA_242.gr (hC.bl col_172))) ?_;refine go ?_;refine qv (v := (.bool (!(decide (y_69.1.1 = e_239.1) && decide (y_69.1.2.1 = e_239.2.1) && decide (y_69.1.2.2.1 = e_239.2.2.1) && decide (y_69.1.2.2.2 = e_239.2.2.2))))) rfl (fun _ hC => r_neqA rfl rfl (by decide +kernel) (eq_struct4 Tryz.underlying38 (by decide +kernel) (by decide) (by decide) (by decide) (by decide) (r_part Tryz.isAgg36 rfl) (r_part Tryz.isAgg36 rfl) (r_part Tryz.isAgg9 rfl) (r_part Tryz.isAgg9 rfl) (r_part Tryz.isAgg3 rfl) (r_part Tryz.isAgg3 rfl) (r_part Tryz.isAgg3 rfl) (r_part Tryz.isAgg3 rfl) (peq_int y_69.1.1 e_239.1 Tryz.underlying36) (peq_str y_69.1.2.1 e_239.2.1 Tryz.underlying9) (peq_int y_69.1.2.2.1 e_239.2.2.1 Tryz.underlying3) (peq_int y_69.1.2.2.2 e_239.2.2.2 Tryz.underlying3))) ?_;refine go ?_;refine bcb hm (fun hg_249 hm => go ?_) fun hg_249 hm => go ?_
     ·refine qv (v := (.bool true)) rfl (fun _ hC => r_pickT (congrArg Value.bool hg_249) rfl) ?_;refine qv (v := (.bool true)) rfl (fun _ hC => r_pickT (congrArg Value.bool hg_238) rfl) ?_;refine qnil ?_;intro w_250 hC;replace hC := hC.bl col_172;replace rh_15 := rh_15.gr hC;replace hgl := hgl.gr hC;replace hb_150 := hb_150.gr hC;replace hb_168 := hb_168.gr hC;replace hb_5 := hb_5.gr hC;replace hb_10 := hb_10.gr hC;replace hb_32 := hb_32.gr hC;replace hb_36 := hb_36.gr hC;replace hb_52 := hb_52.gr hC;replace hb_64 := hb_64.gr hC;replace hrec := hrec.gr hC;replace hmk := hmk.gr hC;replace hki := hki.gr hC;replace hst := hst.grow hC;exact ⟨rfl, _, _, hm, hst, hb_150, hb_168, hb_5, hb_10, rh_15, hb_32, hb_36, hb_52, hb_64, hgl, hrec, hmk, hki, rfl⟩
     refine qv (v := v_105) rfl (fun _ hC => r_move rfl) ?_;refine go ?_;refine qv (v := (.bool y_69.2.isSome)) rfl (fun _ hC => r_neqE h_106 Tryz.underlying30 rfl) ?_;refine go ?_;refine qv (v := (.bool y_69.2.isSome)) rfl (fun _ hC => r_pickF (congrArg Value.bool hg_249) rfl) ?_;refine qv (v := (.bool y_69.2.isSome)) rfl (fun _ hC => r_pickT (congrArg Value.bool hg_238) rfl) ?_;refine qnil ?_;intro w_251 hC;replace hC := hC.bl col_172;replace rh_15 := rh_15.gr hC;replace hgl := hgl.gr hC;replace hb_150 := hb_150.gr hC;replace hb_168 := hb_168.gr hC;replace hb_5 := hb_5.gr hC;replace hb_10 := hb_10.gr hC;replace hb_32 := hb_32.gr hC;replace hb_36 := hb_36.gr hC;replace hb_52 := hb_52.gr hC;replace hb_64 := hb_64.gr hC;replace hrec := hrec.gr hC;replace hmk := hmk.gr hC;replace hki := hki.gr hC;replace hst := hst.grow hC;exact ⟨rfl, _, _, hm, hst, hb_150, hb_168, hb_5, hb_10, rh_15, hb_32, hb_36, hb_52, hb_64, hgl, hrec, hmk, hki, rfl⟩
    refine qpU 56 rfl rfl rfl rfl <| qpU 56 rfl rfl rfl rfl <| go ?_;refine qv (v := (.bool false)) rfl (fun _ hC => r_pickF (congrArg Value.bool hg_238) rfl) ?_;refine qnil ?_;intro w_252 hC;replace hC := hC.bl col_172;replace rh_15 := rh_15.gr hC;replace hgl := hgl.gr hC;replace hb_150 := hb_150.gr hC;replace hb_168 := hb_168.gr hC;replace hb_5 := hb_5.gr hC;replace hb_10 := hb_10.gr hC;replace hb_32 := hb_32.gr hC;replace hb_36 := hb_36.gr hC;replace hb_52 := hb_52.gr hC;replace hb_64 := hb_64.gr hC;replace hrec := hrec.gr hC;replace hmk := hmk.gr hC;replace hki := hki.gr hC;replace hst := hst.grow hC;exact ⟨rfl, _, _, hm, hst, hb_150, hb_168, hb_5, hb_10, rh_15, hb_32, hb_36, hb_52, hb_64, hgl, hrec, hmk, hki, rfl⟩
   refine go ?_;refine bcb hm (fun hg_253 hm => go ?_) fun hg_253 hm => go ?_
   ·refine lV (.bool true) (r_pickT (congrArg Value.bool hg_253) rfl) <| lnil ?_;exact ⟨rfl, _, _, hm, hst, hb_150, h_106, hb_168, hb_5, hb_10, rh_15, hb_32, hb_36, hb_52, hb_64, hgl, hrec, hmk, hki, rfl⟩
   refine lW hb_64.at1 <| go ?_;refine lW hb_52.at1 <| go ?_;refine lV (.bool (decide (all_55 ≤ n_68))) (r_pickF (congrArg Value.bool hg_253) rfl) <| lnil ?_;exact ⟨rfl, _, _, hm, hst, hb_150, h_106, hb_168, hb_5, hb_10, rh_15, hb_32, hb_36, hb_52, hb_64, hgl, hrec, hmk, hki, rfl⟩
  ·intro D_71 col_66 w_65 hJ hmk;obtain ⟨v_67, n_68, hm, hst, hb_5, hb_10, rh_15, hb_32, hb_36, hb_52, hb_64, hgl⟩ := hJ;rw [m_l06_walk_L1.eq_1] at hm;refine wseq ?_;refine Wp.cutK [4, 1000000] (fun f w_72 => ∃ col_73 v_74, m_l06_walk_J2 v_74 = some r ∧ St w0 (col0 col) col_73 w_72 ∧ Box 4 2 col_73 w_72 g_6 #[(.bool v_74)] ∧ Gl (.iface 146 (.agg #[.pointer (some ⟨4, 30, none⟩)])) col_73 w_72 ∧ Marks 499 col_73 w_72 (D_71 :: [])) ?_ ?_
   ·intro f w_72 hJ;obtain ⟨col_73, v_74, hm, hst, hb_10, hgl, hmk⟩ := hJ;rw [m_l06_walk_J2.eq_1] at hm;refine wret ?_;cases hm;refine ⟨_, (D_71 :: []), rfl, hmk, ?_⟩;intro w_75 hk_76 hs_77;replace hb_10 := hb_10.kp hk_76;replace hst := hst.kp hk_76 hs_77;exact ⟨_, res_cell1 rfl rfl Tryz.isAgg4 rfl hb_10.at1, rfl, hst.below⟩
   refine wregion <| lW hb_5.at1 <| go ?_;refine bcb hm (fun hg_78 hm => go ?_) fun hg_78 hm => go ?_
   ·refine lW hb_64.at1 <| go ?_;refine lW hb_5.at1 <| go ?_;refine lW hb_52.at1 <| go ?_;refine lV (.int .i64 (if all_55 < p1_most then all_55 else p1_most)) (r_min p1_most all_55 rfl rfl) <| go ?_;refine lV (.bool (decide (n_68 = (if all_55 < p1_most then all_55 else p1_most)))) (r_pickT (congrArg Value.bool hg_78) rfl) <| lMB rfl ?_;refine bcb hm (fun hg_79 hm => go ?_) fun hg_79 hm => go ?_
    ·refine lpU 92 rfl rfl rfl rfl <| lpU 92 rfl rfl rfl rfl <| lpU 92 rfl rfl rfl rfl <| go ?_;refine lV (.bool true) (r_pickT (congrArg Value.bool hg_79) rfl) <| l_bstore (v := (.bool true)) hb_10 Tryz.sizeOf4 rfl rfl (by intro u hu; simp only [Value.cells, List.mem_cons, List.not_mem_nil, or_false] at hu; subst hu; rfl) rfl rfl ?_;intro w_80 hk_81 hs_82 hb_83;replace hb_83 : Box 4 2 col_66 w_80 g_6 #[(.bool true)] := hb_83;refine lnil ?_;replace hgl := hgl.kp hk_81;replace hmk := hmk.kp hk_81;replace hst := hst.kp hk_81 hs_82;exact ⟨rfl, _, _, hm, hst, hb_83, hgl, hmk⟩
    refine lW hb_5.at1 <| go ?_;refine bcb hm (fun hg_84 hm => go ?_) fun hg_84 hm => go ?_
    ·refine lW hb_64.at1 <| go ?_;refine lW hb_52.at1 <| go ?_;refine lV (.bool (decide (n_68 = all_55))) (r_pickT (congrArg Value.bool hg_84) rfl) <| lV (.bool (decide (n_68 = all_55))) (r_pickF (congrArg Value.bool hg_79) rfl) <| l_bstore (v := (.bool (decide (n_68 = all_55)))) hb_10 Tryz.sizeOf4 rfl rfl (by intro u hu; simp only [Value.cells, List.mem_cons, List.not_mem_nil, or_false] at hu; subst hu; rfl) rfl rfl ?_;intro w_85 hk_86 hs_87 hb_88;replace hb_88 : Box 4 2 col_66 w_85 g_6 #[(.bool (decide (n_68 = all_55)))] := hb_88;refine lnil ?_;replace hgl := hgl.kp hk_86;replace hmk := hmk.kp hk_86;replace hst := hst.kp hk_86 hs_87;exact ⟨rfl, _, _, hm, hst, hb_88, hgl, hmk⟩
    refine lV (.bool false) (r_pickF (congrArg Value.bool hg_84) rfl) <| lV (.bool false) (r_pickF (congrArg Value.bool hg_79) rfl) <| l_bstore (v := (.bool false)) hb_10 Tryz.sizeOf4 rfl rfl (by intro u hu; simp only [Value.cells, List.mem_cons, List.not_mem_nil, or_false] at hu; subst hu; rfl) rfl rfl ?_;intro w_89 hk_90 hs_91 hb_92;replace hb_92 : Box 4 2 col_66 w_89 g_6 #[(.bool false)] := hb_92;refine lnil ?_;replace hgl := hgl.kp hk_90;replace hmk := hmk.kp hk_90;replace hst := hst.kp hk_90 hs_91;exact ⟨rfl, _, _, hm, hst, hb_92, hgl, hmk⟩
   refine lV (.bool false) (r_pickF (congrArg Value.bool hg_78) rfl) <| lMB rfl <| lG 89 rfl rfl <| lW hb_5.at1 <| lG 89 rfl rfl <| go ?_;refine lG 89 rfl rfl <| lMB rfl ?_;refine bcb hm (fun hg_93 hm => go ?_) fun hg_93 hm => go ?_
   ·refine lW hb_64.at1 <| go ?_;refine lW hb_52.at1 <| go ?_;refine lG 89 rfl rfl <| lV (.bool (decide (n_68 = all_55))) (r_pickT (congrArg Value.bool hg_93) rfl) <| lV (.bool (decide (n_68 = all_55))) (r_pickF rfl rfl) <| l_bstore (v := (.bool (decide (n_68 = all_55)))) hb_10 Tryz.sizeOf4 rfl rfl (by intro u hu; simp only [Value.cells, List.mem_cons, List.not_mem_nil, or_false] at hu; subst hu; rfl) rfl rfl ?_;intro w_94 hk_95 hs_96 hb_97;replace hb_97 : Box 4 2 col_66 w_94 g_6 #[(.bool (decide (n_68 = all_55)))] := hb_97;refine lnil ?_;replace hgl := hgl.kp hk_95;replace hmk := hmk.kp hk_95;replace hst := hst.kp hk_95 hs_96;exact ⟨rfl, _, _, hm, hst, hb_97, hgl, hmk⟩
   refine lG 89 rfl rfl <| lV (.bool false) (r_pickF (congrArg Value.bool hg_93) rfl) <| lV (.bool false) (r_pickF rfl rfl) <| l_bstore (v := (.bool false)) hb_10 Tryz.sizeOf4 rfl rfl (by intro u hu; simp only [Value.cells, List.mem_cons, List.not_mem_nil, or_false] at hu; subst hu; rfl) rfl rfl ?_;intro w_98 hk_99 hs_100 hb_101;replace hb_101 : Box 4 2 col_66 w_98 g_6 #[(.bool false)] := hb_101;refine lnil ?_;replace hgl := hgl.kp hk_99;replace hmk := hmk.kp hk_99;replace hst := hst.kp hk_99 hs_100;exact ⟨rfl, _, _, hm, hst, hb_101, hgl, hmk⟩
  intro c_ D_107 col_66 w_65 hX hmk;rcases hX with ⟨rfl, hX⟩ | ⟨rfl, hX⟩
  ·obtain ⟨v_67, n_68, hm, hst, hb_5, hb_10, rh_15, hb_32, hb_36, hb_52, hb_64, hgl⟩ := hX;rw [m_l06_walk_L1_X0.eq_1] at hm;refine wexit (inB_hit ?_);refine wseq ?_;refine Wp.cutK [4, 1000000] (fun f w_108 => ∃ col_109 v_110, m_l06_walk_J3 v_110 = some r ∧ St w0 (col0 col) col_109 w_108 ∧ Box 4 2 col_109 w_108 g_6 #[(.bool v_110)] ∧ Gl (.iface 146 (.agg #[.pointer (some ⟨4, 30, none⟩)])) col_109 w_108 ∧ Marks 499 col_109 w_108 (D_107 :: [])) ?_ ?_
   ·intro f w_108 hJ;obtain ⟨col_109, v_110, hm, hst, hb_10, hgl, hmk⟩ := hJ;rw [m_l06_walk_J3.eq_1] at hm;refine wret ?_;cases hm;refine ⟨_, (D_107 :: []), rfl, hmk, ?_⟩;intro w_111 hk_112 hs_113;replace hb_10 := hb_10.kp hk_112;replace hst := hst.kp hk_112 hs_113;exact ⟨_, res_cell1 rfl rfl Tryz.isAgg4 rfl hb_10.at1, rfl, hst.below⟩
   refine wregion <| lW hb_5.at1 <| go ?_;refine bcb hm (fun hg_114 hm => go ?_) fun hg_114 hm => go ?_
   ·refine lW hb_64.at1 <| go ?_;refine lW hb_5.at1 <| go ?_;refine lW hb_52.at1 <| go ?_;refine lV (.int .i64 (if all_55 < p1_most then all_55 else p1_most)) (r_min p1_most all_55 rfl rfl) <| go ?_;refine lV (.bool (decide (n_68 = (if all_55 < p1_most then all_55 else p1_most)))) (r_pickT (congrArg Value.bool hg_114) rfl) <| lMB rfl ?_;refine bcb hm (fun hg_115 hm => go ?_) fun hg_115 hm => go ?_
    ·refine lpU 92 rfl rfl rfl rfl <| lpU 92 rfl rfl rfl rfl <| lpU 92 rfl rfl rfl rfl <| go ?_;refine lV (.bool true) (r_pickT (congrArg Value.bool hg_115) rfl) <| l_bstore (v := (.bool true)) hb_10 Tryz.sizeOf4 rfl rfl (by intro u hu; simp only [Value.cells, List.mem_cons, List.not_mem_nil, or_false] at hu; subst hu; rfl) rfl rfl ?_;intro w_116 hk_117 hs_118 hb_119;replace hb_119 : Box 4 2 col_66 w_116 g_6 #[(.bool true)] := hb_119;refine lnil ?_;replace hgl := hgl.kp hk_117;replace hmk := hmk.kp hk_117;replace hst := hst.kp hk_117 hs_118;exact ⟨rfl, _, _, hm, hst, hb_119, hgl, hmk⟩
    refine lW hb_5.at1 <| go ?_;refine bcb hm (fun hg_120 hm => go ?_) fun hg_120 hm => go ?_
    ·refine lW hb_64.at1 <| go ?_;refine lW hb_52.at1 <| go ?_;refine lV (.bool (decide (n_68 = all_55))) (r_pickT (congrArg Value.bool hg_120) rfl) <| lV (.bool (decide (n_68 = all_55))) (r_pickF (congrArg Value.bool hg_115) rfl) <| l_bstore (v := (.bool (decide (n_68 = all_55)))) hb_10 Tryz.sizeOf4 rfl rfl (by intro u hu; simp only [Value.cells, List.mem_cons, List.not_mem_nil, or_false] at hu; subst hu; rfl) rfl rfl ?_;intro w_121 hk_122 hs_123 hb_124;replace hb_124 : Box 4 2 col_66 w_121 g_6 #[(.bool (decide (n_68 = all_55)))] := hb_124;refine lnil ?_;replace hgl := hgl.kp hk_122;replace hmk := hmk.kp hk_122;replace hst := hst.kp hk_122 hs_123;exact ⟨rfl, _, _, hm, hst, hb_124, hgl, hmk⟩
    refine lV (.bool false) (r_pickF (congrArg Value.bool hg_120) rfl) <| lV (.bool false) (r_pickF (congrArg Value.bool hg_115) rfl) <| l_bstore (v := (.bool false)) hb_10 Tryz.sizeOf4 rfl rfl (by intro u hu; simp only [Value.cells, List.mem_cons, List.not_mem_nil, or_false] at hu; subst hu; rfl) rfl rfl ?_;intro w_125 hk_126 hs_127 hb_128;replace hb_128 : Box 4 2 col_66 w_125 g_6 #[(.bool false)] := hb_128;refine lnil ?_;replace hgl := hgl.kp hk_126;replace hmk := hmk.kp hk_126;replace hst := hst.kp hk_126 hs_127;exact ⟨rfl, _, _, hm, hst, hb_128, hgl, hmk⟩
   refine lV (.bool false) (r_pickF (congrArg Value.bool hg_114) rfl) <| lMB rfl <| lG 89 rfl rfl <| lW hb_5.at1 <| lG 89 rfl rfl <| go ?_;refine lG 89 rfl rfl <| lMB rfl ?_;refine bcb hm (fun hg_129 hm => go ?_) fun hg_129 hm => go ?_
   ·refine lW hb_64.at1 <| go ?_;refine lW hb_52.at1 <| go ?_;refine lG 89 rfl rfl <| lV (.bool (decide (n_68 = all_55))) (r_pickT (congrArg Value.bool hg_129) rfl) <| lV (.bool (decide (n_68 = all_55))) (r_pickF rfl rfl) <| l_bstore (v := (.bool (decide (n_68 = all_55)))) hb_10 Tryz.sizeOf4 rfl rfl (by intro u hu; simp only [Value.cells, List.mem_cons, List.not_mem_nil, or_false] at hu; subst hu; rfl) rfl rfl ?_;intro w_130 hk_131 hs_132 hb_133;replace hb_133 : Box 4 2 col_66 w_130 g_6 #[(.bool (decide (n_68 = all_55)))] := hb_133;refine lnil ?_;replace hgl := hgl.kp hk_131;replace hmk := hmk.kp hk_131;replace hst := hst.kp hk_131 hs_132;exact ⟨rfl, _, _, hm, hst, hb_133, hgl, hmk⟩
   refine lG 89 rfl rfl <| lV (.bool false) (r_pickF (congrArg Value.bool hg_129) rfl) <| lV (.bool false) (r_pickF rfl rfl) <| l_bstore (v := (.bool false)) hb_10 Tryz.sizeOf4 rfl rfl (by intro u hu; simp only [Value.cells, List.mem_cons, List.not_mem_nil, or_false] at hu; subst hu; rfl) rfl rfl ?_;intro w_134 hk_135 hs_136 hb_137;replace hb_137 : Box 4 2 col_66 w_134 g_6 #[(.bool false)] := hb_137;refine lnil ?_;replace hgl := hgl.kp hk_135;replace hmk := hmk.kp hk_135;replace hst := hst.kp hk_135 hs_136;exact ⟨rfl, _, _, hm, hst, hb_137, hgl, hmk⟩
  obtain ⟨v_67, n_68, hm, hst, hb_5, hb_10, rh_15, hb_32, hb_36, hb_52, hb_64, hgl⟩ := hX;rw [m_l06_walk_L1_Xret.eq_1] at hm;refine wret ?_;cases hm;refine ⟨_, (D_107 :: []), rfl, hmk, ?_⟩;intro w_139 hk_140 hs_141;replace hb_10 := hb_10.kp hk_140;replace hst := hst.kp hk_140 hs_141;exact ⟨_, res_cell1 rfl rfl Tryz.isAgg4 rfl hb_10.at1, rfl, hst.below⟩
 refine go ?_;refine lFLb hb_36 ?_;refine go ?_;refine wcb hm (fun hb hm => ?_) fun hb hm => ?_
 ·refine wregion <| lW hb_52.at1 <| go ?_;refine l_bstore (v := (.int .i64 (IntKind.i64.wrap ((r_11.1.length : Int) + 1)))) hb_52 Tryz.sizeOf3 rfl rfl (by intro u hu; simp only [Value.cells, List.mem_cons, List.not_mem_nil, or_false] at hu; subst hu; rfl) rfl rfl ?_;intro w_254 hk_255 hs_256 hb_257;replace hb_257 : Box 3 6 col_46 w_254 g_44 #[(.int .i64 (IntKind.i64.wrap ((r_11.1.length : Int) + 1)))] := hb_257;refine lnil ?_;replace hgl := hgl.kp hk_255;replace rh_15 := rh_15.kp hk_255;replace rh_40 := rh_40.kp hk_255 rfl;replace hb_5 := hb_5.kp hk_255;replace hb_10 := hb_10.kp hk_255;replace hb_32 := hb_32.kp hk_255;replace hb_36 := hb_36.kp hk_255;replace hmk := hmk.kp hk_255;replace hst := hst.kp hk_255 hs_256;exact ⟨rfl, _, _, hm, hst, hb_5, hb_10, rh_15, hb_32, hb_36, rh_40, hb_257, hgl, hmk⟩
 refine wskip ?_;exact ⟨rfl, _, _, hm, hst, hb_5, hb_10, rh_15, hb_32, hb_36, rh_40, hb_52, hgl, hmk⟩
def m_l06_LexEach_L2 (N : Nat) (p0_text : ByteArray) : List ((Int × ByteArray × Int × Int) × (Option (Int × Int × Int × ByteArray))) → Int → Option Bool
  | [], m_63 => (m_r06_All N p0_text).bind fun r_67 => if (!decide (r_67.2.1 = 0)) = true then (some (decide (m_63 = (IntKind.i64.wrap ((r_67.1.length : Int) + 1))))) else (some (decide (m_63 = (r_67.1.length : Int))))
  | y_64 :: l_65, m_63 => (m_l06_LexEach_L2 N p0_text l_65) (IntKind.i64.wrap (m_63 + 1))
termination_by structural x => x
def m_l06_LexEach_L3 (N : Nat) (p0_text : ByteArray) : List ((Int × ByteArray × Int × Int) × (Option (Int × Int × Int × ByteArray))) → Int → Option Bool
  | [], m_120 => (m_r06_All N p0_text).bind fun r_124 => if (!decide (r_124.2.1 = 0)) = true then (some (decide (m_120 = (IntKind.i64.wrap ((r_124.1.length : Int) + 1))))) else (some (decide (m_120 = (r_124.1.length : Int))))
  | y_121 :: l_122, m_120 => (m_l06_LexEach_L3 N p0_text l_122) (IntKind.i64.wrap (m_120 + 1))
termination_by structural x => x
def m_l06_LexEach_L1_X0 (N : Nat) (p0_text : ByteArray) (r_18 : (List ((Int × ByteArray × Int × Int) × (Option (Int × Int × Int × ByteArray))))) (n_48 : Int) : Option Bool :=
  m_l06_LexEach_L3 N p0_text r_18 0
def m_l06_LexEach_L1 (N : Nat) (p0_text : ByteArray) (p1_most : Int) (r_18 : (List ((Int × ByteArray × Int × Int) × (Option (Int × Int × Int × ByteArray))))) : List ((Int × ByteArray × Int × Int) × (Option (Int × Int × Int × ByteArray))) → Int → Option Bool
  | [], n_48 => m_l06_LexEach_L2 N p0_text r_18 0
  | y_49 :: l_50, n_48 => if (decide ((IntKind.i64.wrap (n_48 + 1)) = p1_most)) = true then (m_l06_LexEach_L1_X0 N p0_text r_18 (IntKind.i64.wrap (n_48 + 1))) else ((m_l06_LexEach_L1 N p0_text p1_most r_18 l_50) (IntKind.i64.wrap (n_48 + 1)))
termination_by structural x => x
def m_l06_LexEach_J1 (N : Nat) (p0_text : ByteArray) (p1_most : Int) (r_18 : (List ((Int × ByteArray × Int × Int) × (Option (Int × Int × Int × ByteArray))))) (v_33 : Bool) : Option Bool :=
  if v_33 = true then (some false) else (m_l06_LexEach_L1 N p0_text p1_most r_18 r_18 0)
def m_l06_LexEach (N : Nat) (p0_text : ByteArray) (p1_most : Int) : Option Bool :=
  (m_l06_awake N).bind fun r_6 => (m_l06_walk N p0_text p1_most).bind fun r_10 => (m_l06_walk N p0_text 0).bind fun r_14 => (m_lex_Each N p0_text).bind fun r_18 => if (!r_6) = true then (m_l06_LexEach_J1 N p0_text p1_most r_18 true) else (if (!r_10) = true then (m_l06_LexEach_J1 N p0_text p1_most r_18 true) else (if (!r_14) = true then (m_l06_LexEach_J1 N p0_text p1_most r_18 true) else (m_l06_LexEach_J1 N p0_text p1_most r_18 false)))
theorem c_l06_LexEach (N : Nat) (col : Col) (w0 : World) (p0_text : ByteArray) (p1_most : Int) (hgl : Gl (.iface 146 (.agg #[.pointer (some ⟨4, 30, none⟩)])) col w0) (r : Bool) (hm : m_l06_LexEach N p0_text p1_most = some r) :
    Calls Tryz.prog 4 #[(.string p0_text), (.int .i64 p1_most)] w0 (fun e w' => e = .returned ((.bool r)) ∧ Below w0.heap.size w0 w') := by
 refine calls_ofM1 4 (mc := 499) (m := 65) (args := [(.string p0_text), (.int .i64 p1_most)]) Tryz.func4 rfl rfl rfl rfl rfl ?_;rw [m_l06_LexEach.eq_1] at hm;have hst := St.start col w0;replace hgl := hgl.keep (Stay.start col w0);have hmk : Marks 499 (col0 col) w0 [] := .nil;refine go ?_;refine l_box (col := (col0 col)) (v := (.int .i64 p1_most)) 1 rfl rfl ?_;intro g_1 w_2 col_3 hg_4 hb_5;replace hb_5 : Box 3 1 col_3 w_2 g_1 #[(.int .i64 p1_most)] := hb_5;refine go ?_;obtain ⟨r_6, hr_7, hm⟩ := bZ hm;replace hgl := hgl.gr hg_4;refine lc rfl rfl (r_call0 Tryz.call10 ) (c_l06_awake hr_7 hgl :) ?_;rintro _ w_8 ⟨rfl, hg_9⟩;refine ⟨_, rfl, ?_⟩;replace hg_9 : Grow col_3 w_2 col_3 w_8 := .of_below hg_9;refine go ?_;replace hb_5 := hb_5.gr hg_9;refine lW hb_5.at1 ?_;obtain ⟨r_10, hr_11, hm⟩ := bZ hm;replace hgl := hgl.gr hg_9;refine lcA (c_l06_walk hr_11 hgl) ?_;rintro _ w_12 ⟨rfl, hg_13⟩;refine ⟨_, rfl, ?_⟩;replace hg_13 : Grow col_3 w_8 col_3 w_12 := .of_below hg_13;refine go ?_;obtain ⟨r_14, hr_15, hm⟩ := bZ hm;replace hgl := hgl.gr hg_13;refine lcA (c_l06_walk hr_15 hgl) ?_;rintro _ w_16 ⟨rfl, hg_17⟩;refine ⟨_, rfl, ?_⟩;replace hg_17 : Grow col_3 w_12 col_3 w_16 := .of_below hg_17;refine go ?_;obtain ⟨r_18, hr_19, hm⟩ := bZ hm;replace hgl := hgl.gr hg_17;refine lcA (c_lex_Each hr_19 hgl) ?_;rintro _ w_22 ⟨col_24, rv_20, rfl, hg_23, rh_21⟩;refine ⟨_, rfl, ?_⟩;refine lv (v := rv_20) rfl rfl (r_assign rfl) <| lnil <| wseq <| wseq ?_;replace hmk := ((((hmk.gr hg_4).gr hg_9).gr hg_13).gr hg_17).gr hg_23;replace hst := ((((hst.grow hg_4).grow hg_9).grow hg_13).grow hg_17).grow hg_23;replace hb_5 := ((hb_5.gr hg_13).gr hg_17).gr hg_23;replace hgl := hgl.gr hg_23;refine Wp.cutK [0, 3, 8, 1000000] (fun f w_31 => ∃ col_32 v_33, m_l06_LexEach_J1 N p0_text p1_most r_18 v_33 = some r ∧ St w0 (col0 col) col_32 w_31 ∧ Box 3 1 col_32 w_31 g_1 #[(.int .i64 p1_most)] ∧ It Tryz.prog 1 rv_20 (fun (y : (Int × ByteArray × Int × Int) × (Option (Int × Int × Int × ByteArray))) (col : Col) (w : World) (args : List Value) => ∃ (v1 : Value), args = [(.agg #[(.int .i8 y.1.1), (.string y.1.2.1), (.int .i64 y.1.2.2.1), (.int .i64 y.1.2.2.2)]), v1] ∧ Rd (Rep.err 57 26 (Rep.pair (Rep.int .i64) (Rep.pair (Rep.int .i64) (Rep.pair (Rep.int .i64) Rep.str)))) col w [v1] y.2) r_18 qz col_32 w_31 ∧ Gl (.iface 146 (.agg #[.pointer (some ⟨4, 30, none⟩)])) col_32 w_31 ∧ Marks 499 col_32 w_31 [] ∧ [34].map f = [.bool v_33]) ?_ ?_
 ·intro f w_31 hJ;obtain ⟨col_32, v_33, hm, hst, hb_5, rh_21, hgl, hmk, hs⟩ := hJ;rw [m_l06_LexEach_J1.eq_1] at hm;refine .lL [34] hs ?_;refine wcb hm (fun hb hm => go ?_) fun hb hm => go ?_
  ·cases hm;refine ⟨_, [], rfl, hmk, ?_⟩;intro w_34 hk_35 hs_36;replace hst := hst.kp hk_35 hs_36;exact ⟨rfl, hst.below⟩
  refine l_alloc (col := col_32) (v := (.int .i64 0)) 2 rfl Tryz.zeroValue3 ?_;intro g_37 w_38 col_39 hg_40 hb_41;replace hb_41 : Box 3 2 col_39 w_38 g_37 #[(.int .i64 0)] := hb_41;refine l_bstore (v := (.int .i64 0)) hb_41 Tryz.sizeOf3 rfl rfl (by intro u hu; simp only [Value.cells, List.mem_cons, List.not_mem_nil, or_false] at hu; subst hu; rfl) rfl rfl ?_;intro w_42 hk_43 hs_44 hb_45;replace hb_45 : Box 3 2 col_39 w_42 g_37 #[(.int .i64 0)] := hb_45;refine go ?_;refine lv (v := rv_20) rfl rfl (r_move rfl) <| go ?_;replace rh_21 := (rh_21.gr hg_40).kp hk_43 rfl;replace hgl := (hgl.gr hg_40).kp hk_43;replace hb_5 := (hb_5.gr hg_40).kp hk_43;replace hmk := (hmk.gr hg_40).kp hk_43;replace hst := (hst.grow hg_40).kp hk_43 hs_44;refine wrange (psl := [36, 37]) (arr := (fun (y : (Int × ByteArray × Int × Int) × (Option (Int × Int × Int × ByteArray))) (col : Col) (w : World) (args : List Value) => ∃ (v1 : Value), args = [(.agg #[(.int .i8 y.1.1), (.string y.1.2.1), (.int .i64 y.1.2.2.1), (.int .i64 y.1.2.2.2)]), v1] ∧ Rd (Rep.err 57 26 (Rep.pair (Rep.int .i64) (Rep.pair (Rep.int .i64) (Rep.pair (Rep.int .i64) Rep.str)))) col w [v1] y.2)) (ys := r_18) (col := col_39) 498 rfl rh_21 rfl hmk rfl rfl (by rintro _ _ _ _ ⟨_, rfl, _⟩; rfl) (fun ys_ col_47 w_46 => ∃ (n_48 : Int), m_l06_LexEach_L1 N p0_text p1_most r_18 ys_ n_48 = some r ∧ St w0 (col0 col) col_47 w_46 ∧ Box 3 1 col_47 w_46 g_1 #[(.int .i64 p1_most)] ∧ It Tryz.prog 1 rv_20 (fun (y : (Int × ByteArray × Int × Int) × (Option (Int × Int × Int × ByteArray))) (col : Col) (w : World) (args : List Value) => ∃ (v1 : Value), args = [(.agg #[(.int .i8 y.1.1), (.string y.1.2.1), (.int .i64 y.1.2.2.1), (.int .i64 y.1.2.2.2)]), v1] ∧ Rd (Rep.err 57 26 (Rep.pair (Rep.int .i64) (Rep.pair (Rep.int .i64) (Rep.pair (Rep.int .i64) Rep.str)))) col w [v1] y.2) r_18 qz col_47 w_46 ∧ Box 3 2 col_47 w_46 g_37 #[(.int .i64 n_48)] ∧ Gl (.iface 146 (.agg #[.pointer (some ⟨4, 30, none⟩)])) col_47 w_46) (fun c_ col_47 w_46 => (c_ = .exit 0 ∧ ∃ (n_48 : Int), m_l06_LexEach_L1_X0 N p0_text r_18 n_48 = some r ∧ St w0 (col0 col) col_47 w_46 ∧ Box 3 1 col_47 w_46 g_1 #[(.int .i64 p1_most)] ∧ It Tryz.prog 1 rv_20 (fun (y : (Int × ByteArray × Int × Int) × (Option (Int × Int × Int × ByteArray))) (col : Col) (w : World) (args : List Value) => ∃ (v1 : Value), args = [(.agg #[(.int .i8 y.1.1), (.string y.1.2.1), (.int .i64 y.1.2.2.1), (.int .i64 y.1.2.2.2)]), v1] ∧ Rd (Rep.err 57 26 (Rep.pair (Rep.int .i64) (Rep.pair (Rep.int .i64) (Rep.pair (Rep.int .i64) Rep.str)))) col w [v1] y.2) r_18 qz col_47 w_46 ∧ Box 3 2 col_47 w_46 g_37 #[(.int .i64 n_48)] ∧ Gl (.iface 146 (.agg #[.pointer (some ⟨4, 30, none⟩)])) col_47 w_46)) ?_ ?_ ⟨0, hm, hst, hb_5, rh_21, hb_45, hgl⟩ ?_ ?_ ?_
  ·intro ys_ col_47 w_46 col2_ w2_ hJ hk;obtain ⟨n_48, hm, hst, hb_5, rh_21, hb_45, hgl⟩ := hJ;exact ⟨n_48, hm, hst.kpp hk rfl rfl, hb_5.kpp hk rfl, rh_21.kpp hk (qz_all rfl), hb_45.kpp hk rfl, hgl.kpp hk rfl⟩
  ·intro c_ col_47 w_46 col2_ w2_ hX hk;obtain ⟨rfl, hX⟩ := hX;obtain ⟨n_48, hm, hst, hb_5, rh_21, hb_45, hgl⟩ := hX;exact ⟨rfl, ⟨n_48, hm, hst.kpp hk rfl rfl, hb_5.kpp hk rfl, rh_21.kpp hk (qz_all rfl), hb_45.kpp hk rfl, hgl.kpp hk rfl⟩⟩
  ·intro l_103 rc_104 ds_105 y_49 l_50 col_47 w_46 args hJ hrec hmk harr;obtain ⟨n_48, hm, hst, hb_5, rh_21, hb_45, hgl⟩ := hJ;rw [m_l06_LexEach_L1.eq_2] at hm;have hki := KeepP.refl (pC 1) col_47 w_46;obtain ⟨v_106, rfl, h_107⟩ := harr;refine wskip ?_;refine ⟨_, hrec, ?_⟩;intro w_160 rc_161 hk_162 hs_163 hrec2;have hrec := hrec2;refine go ?_;replace hb_45 := hb_45.kp hk_162;refine lW hb_45.at1 <| go ?_;refine l_bstore (v := (.int .i64 (IntKind.i64.wrap (n_48 + 1)))) hb_45 Tryz.sizeOf3 rfl rfl (by intro u hu; simp only [Value.cells, List.mem_cons, List.not_mem_nil, or_false] at hu; subst hu; rfl) rfl rfl ?_;intro w_164 hk_165 hs_166 hb_167;replace hb_167 : Box 3 2 col_47 w_164 g_37 #[(.int .i64 (IntKind.i64.wrap (n_48 + 1)))] := hb_167;refine go ?_;refine lW hb_167.at1 ?_;replace hb_5 := (hb_5.kp hk_162).kp hk_165;refine lW hb_5.at1 <| go ?_;replace rh_21 := (rh_21.kp hk_162 rfl).kp hk_165 rfl;replace hgl := (hgl.kp hk_162).kp hk_165;replace hmk := (hmk.kp hk_162).kp hk_165;replace hki := (hki.kp hk_162 hs_163 rfl).kp hk_165 hs_166 rfl;replace hst := (hst.kp hk_162 hs_163).kp hk_165 hs_166;replace hrec := hrec.kp hk_165;refine wcb hm (fun hb hm => ?_) fun hb hm => ?_
   ·refine wexit (inB_miss rfl (?_));exact ⟨_, hki, ⟨rfl, ⟨(IntKind.i64.wrap (n_48 + 1)), hm, hst, hb_5, rh_21, hb_167, hgl⟩⟩, hrec, hmk⟩
   refine wskip ?_;exact ⟨_, hki, ⟨(IntKind.i64.wrap (n_48 + 1)), hm, hst, hb_5, rh_21, hb_167, hgl⟩, hrec, hmk⟩
  ·intro D_51 col_47 w_46 hJ hmk;obtain ⟨n_48, hm, hst, hb_5, rh_21, hb_45, hgl⟩ := hJ;rw [m_l06_LexEach_L1.eq_1] at hm;refine go ?_;refine l_alloc (col := col_47) (v := (.int .i64 0)) 3 rfl Tryz.zeroValue3 ?_;intro g_52 w_53 col_54 hg_55 hb_56;replace hb_56 : Box 3 3 col_54 w_53 g_52 #[(.int .i64 0)] := hb_56;refine l_bstore (v := (.int .i64 0)) hb_56 Tryz.sizeOf3 rfl rfl (by intro u hu; simp only [Value.cells, List.mem_cons, List.not_mem_nil, or_false] at hu; subst hu; rfl) rfl rfl ?_;intro w_57 hk_58 hs_59 hb_60;replace hb_60 : Box 3 3 col_54 w_57 g_52 #[(.int .i64 0)] := hb_60;refine go ?_;refine lv (v := rv_20) rfl rfl (r_move rfl) <| go ?_;replace rh_21 := (rh_21.gr hg_55).kp hk_58 rfl;replace hgl := (hgl.gr hg_55).kp hk_58;replace hmk := (hmk.gr hg_55).kp hk_58;replace hst := (hst.grow hg_55).kp hk_58 hs_59;refine wrange (psl := [44, 45]) (arr := (fun (y : (Int × ByteArray × Int × Int) × (Option (Int × Int × Int × ByteArray))) (col : Col) (w : World) (args : List Value) => ∃ (v1 : Value), args = [(.agg #[(.int .i8 y.1.1), (.string y.1.2.1), (.int .i64 y.1.2.2.1), (.int .i64 y.1.2.2.2)]), v1] ∧ Rd (Rep.err 57 26 (Rep.pair (Rep.int .i64) (Rep.pair (Rep.int .i64) (Rep.pair (Rep.int .i64) Rep.str)))) col w [v1] y.2)) (ys := r_18) (col := col_54) 498 rfl rh_21 rfl hmk rfl rfl (by rintro _ _ _ _ ⟨_, rfl, _⟩; rfl) (fun ys_ col_62 w_61 => ∃ (m_63 : Int), m_l06_LexEach_L2 N p0_text ys_ m_63 = some r ∧ St w0 (col0 col) col_62 w_61 ∧ Box 3 3 col_62 w_61 g_52 #[(.int .i64 m_63)] ∧ Gl (.iface 146 (.agg #[.pointer (some ⟨4, 30, none⟩)])) col_62 w_61) (fun _ _ _ => False) ?_ ?_ ⟨0, hm, hst, hb_60, hgl⟩ ?_ ?_ ?_
   ·intro ys_ col_62 w_61 col2_ w2_ hJ hk;obtain ⟨m_63, hm, hst, hb_60, hgl⟩ := hJ;exact ⟨m_63, hm, hst.kpp hk rfl rfl, hb_60.kpp hk rfl, hgl.kpp hk rfl⟩
   ·intro _ _ _ _ _ h _;exact h
   ·intro l_90 rc_91 ds_92 y_64 l_65 col_62 w_61 args hJ hrec hmk harr;obtain ⟨m_63, hm, hst, hb_60, hgl⟩ := hJ;rw [m_l06_LexEach_L2.eq_2] at hm;have hki := KeepP.refl (pC 1) col_62 w_61;obtain ⟨v_93, rfl, h_94⟩ := harr;refine wskip ?_;refine ⟨_, hrec, ?_⟩;intro w_95 rc_96 hk_97 hs_98 hrec2;have hrec := hrec2;refine go ?_;replace hb_60 := hb_60.kp hk_97;refine lW hb_60.at1 <| go ?_;refine l_bstore (v := (.int .i64 (IntKind.i64.wrap (m_63 + 1)))) hb_60 Tryz.sizeOf3 rfl rfl (by intro u hu; simp only [Value.cells, List.mem_cons, List.not_mem_nil, or_false] at hu; subst hu; rfl) rfl rfl ?_;intro w_99 hk_100 hs_101 hb_102;replace hb_102 : Box 3 3 col_62 w_99 g_52 #[(.int .i64 (IntKind.i64.wrap (m_63 + 1)))] := hb_102;refine lnil ?_;replace hgl := (hgl.kp hk_97).kp hk_100;replace hmk := (hmk.kp hk_97).kp hk_100;replace hki := (hki.kp hk_97 hs_98 rfl).kp hk_100 hs_101 rfl;replace hst := (hst.kp hk_97 hs_98).kp hk_100 hs_101;replace hrec := hrec.kp hk_100;exact ⟨_, hki, ⟨(IntKind.i64.wrap (m_63 + 1)), hm, hst, hb_102, hgl⟩, hrec, hmk⟩
   ·intro D_66 col_62 w_61 hJ hmk;obtain ⟨m_63, hm, hst, hb_60, hgl⟩ := hJ;rw [m_l06_LexEach_L2.eq_1] at hm;refine go ?_;obtain ⟨r_67, hr_68, hm⟩ := bZ hm;refine lcA (c_r06_All (col := col_62) 4 hr_68) ?_;rintro _ w_72 ⟨col_74, ra_69, rc_70, rfl, hg_73, rh_71⟩;refine ⟨_, rfl, ?_⟩;refine lM (.tuple #[(.slice ra_69 r_67.1.length rc_70), (.agg #[(.int .i64 r_67.2.1), (.int .i64 r_67.2.2.1), (.int .i64 r_67.2.2.2.1), (.string r_67.2.2.2.2)])]) <| lV (.slice ra_69 r_67.1.length rc_70) (r_extract rfl rfl) <| lV (.agg #[(.int .i64 r_67.2.1), (.int .i64 r_67.2.2.1), (.int .i64 r_67.2.2.2.1), (.string r_67.2.2.2.2)]) (r_extract rfl rfl) <| l_allocA (col := col_74) #[(.int .i64 0), (.int .i64 0), (.int .i64 0), (.string (⟨#[]⟩))] 5 Tryz.zeroValue26 ?_;intro g_75 w_76 col_77 hg_78 hb_79;refine lAS rfl <| l_bsA hb_79 ?_;intro w_80 hk_81 hs_82 hb_83;refine go ?_;refine lFLb hb_83 ?_;refine go ?_;replace hb_60 := ((hb_60.gr hg_73).gr hg_78).kp hk_81;replace hmk := ((hmk.gr hg_73).gr hg_78).kp hk_81;replace hst := ((hst.grow hg_73).grow hg_78).kp hk_81 hs_82;refine wcb hm (fun hb hm => go ?_) fun hb hm => go ?_
    ·refine lW hb_60.at1 <| go ?_;cases hm;refine ⟨_, (D_66 :: (D_51 :: [])), rfl, hmk, ?_⟩;intro w_84 hk_85 hs_86;replace hst := hst.kp hk_85 hs_86;exact ⟨rfl, hst.below⟩
    refine lW hb_60.at1 <| go ?_;cases hm;refine ⟨_, (D_66 :: (D_51 :: [])), rfl, hmk, ?_⟩;intro w_87 hk_88 hs_89;replace hst := hst.kp hk_88 hs_89;exact ⟨rfl, hst.below⟩
   intro _ _ _ _ h;exact h.elim
  intro c_ D_108 col_47 w_46 hX hmk;obtain ⟨rfl, hX⟩ := hX;obtain ⟨n_48, hm, hst, hb_5, rh_21, hb_45, hgl⟩ := hX;rw [m_l06_LexEach_L1_X0.eq_1] at hm;refine go ?_;refine l_alloc (col := col_47) (v := (.int .i64 0)) 6 rfl Tryz.zeroValue3 ?_;intro g_109 w_110 col_111 hg_112 hb_113;replace hb_113 : Box 3 6 col_111 w_110 g_109 #[(.int .i64 0)] := hb_113;refine l_bstore (v := (.int .i64 0)) hb_113 Tryz.sizeOf3 rfl rfl (by intro u hu; simp only [Value.cells, List.mem_cons, List.not_mem_nil, or_false] at hu; subst hu; rfl) rfl rfl ?_;intro w_114 hk_115 hs_116 hb_117;replace hb_117 : Box 3 6 col_111 w_114 g_109 #[(.int .i64 0)] := hb_117;refine go ?_;refine lv (v := rv_20) rfl rfl (r_move rfl) <| go ?_;replace rh_21 := (rh_21.gr hg_112).kp hk_115 rfl;replace hgl := (hgl.gr hg_112).kp hk_115;replace hmk := (hmk.gr hg_112).kp hk_115;replace hst := (hst.grow hg_112).kp hk_115 hs_116;refine wrange (psl := [44, 45]) (arr := (fun (y : (Int × ByteArray × Int × Int) × (Option (Int × Int × Int × ByteArray))) (col : Col) (w : World) (args : List Value) => ∃ (v1 : Value), args = [(.agg #[(.int .i8 y.1.1), (.string y.1.2.1), (.int .i64 y.1.2.2.1), (.int .i64 y.1.2.2.2)]), v1] ∧ Rd (Rep.err 57 26 (Rep.pair (Rep.int .i64) (Rep.pair (Rep.int .i64) (Rep.pair (Rep.int .i64) Rep.str)))) col w [v1] y.2)) (ys := r_18) (col := col_111) 498 rfl rh_21 rfl hmk rfl rfl (by rintro _ _ _ _ ⟨_, rfl, _⟩; rfl) (fun ys_ col_119 w_118 => ∃ (m_120 : Int), m_l06_LexEach_L3 N p0_text ys_ m_120 = some r ∧ St w0 (col0 col) col_119 w_118 ∧ Box 3 6 col_119 w_118 g_109 #[(.int .i64 m_120)] ∧ Gl (.iface 146 (.agg #[.pointer (some ⟨4, 30, none⟩)])) col_119 w_118) (fun _ _ _ => False) ?_ ?_ ⟨0, hm, hst, hb_117, hgl⟩ ?_ ?_ ?_
  ·intro ys_ col_119 w_118 col2_ w2_ hJ hk;obtain ⟨m_120, hm, hst, hb_117, hgl⟩ := hJ;exact ⟨m_120, hm, hst.kpp hk rfl rfl, hb_117.kpp hk rfl, hgl.kpp hk rfl⟩
  ·intro _ _ _ _ _ h _;exact h
  ·intro l_147 rc_148 ds_149 y_121 l_122 col_119 w_118 args hJ hrec hmk harr;obtain ⟨m_120, hm, hst, hb_117, hgl⟩ := hJ;rw [m_l06_LexEach_L3.eq_2] at hm;have hki := KeepP.refl (pC 1) col_119 w_118;obtain ⟨v_150, rfl, h_151⟩ := harr;refine wskip ?_;refine ⟨_, hrec, ?_⟩;intro w_152 rc_153 hk_154 hs_155 hrec2;have hrec := hrec2;refine go ?_;replace hb_117 := hb_117.kp hk_154;refine lW hb_117.at1 <| go ?_;refine l_bstore (v := (.int .i64 (IntKind.i64.wrap (m_120 + 1)))) hb_117 Tryz.sizeOf3 rfl rfl (by intro u hu; simp only [Value.cells, List.mem_cons, List.not_mem_nil, or_false] at hu; subst hu; rfl) rfl rfl ?_;intro w_156 hk_157 hs_158 hb_159;replace hb_159 : Box 3 6 col_119 w_156 g_109 #[(.int .i64 (IntKind.i64.wrap (m_120 + 1)))] := hb_159;refine lnil ?_;replace hgl := (hgl.kp hk_154).kp hk_157;replace hmk := (hmk.kp hk_154).kp hk_157;replace hki := (hki.kp hk_154 hs_155 rfl).kp hk_157 hs_158 rfl;replace hst := (hst.kp hk_154 hs_155).kp hk_157 hs_158;replace hrec := hrec.kp hk_157;exact ⟨_, hki, ⟨(IntKind.i64.wrap (m_120 + 1)), hm, hst, hb_159, hgl⟩, hrec, hmk⟩
  ·intro D_123 col_119 w_118 hJ hmk;obtain ⟨m_120, hm, hst, hb_117, hgl⟩ := hJ;rw [m_l06_LexEach_L3.eq_1] at hm;refine go ?_;obtain ⟨r_124, hr_125, hm⟩ := bZ hm;refine lcA (c_r06_All (col := col_119) 7 hr_125) ?_;rintro _ w_129 ⟨col_131, ra_126, rc_127, rfl, hg_130, rh_128⟩;refine ⟨_, rfl, ?_⟩;refine lM (.tuple #[(.slice ra_126 r_124.1.length rc_127), (.agg #[(.int .i64 r_124.2.1), (.int .i64 r_124.2.2.1), (.int .i64 r_124.2.2.2.1), (.string r_124.2.2.2.2)])]) <| lV (.slice ra_126 r_124.1.length rc_127) (r_extract rfl rfl) <| lV (.agg #[(.int .i64 r_124.2.1), (.int .i64 r_124.2.2.1), (.int .i64 r_124.2.2.2.1), (.string r_124.2.2.2.2)]) (r_extract rfl rfl) <| l_allocA (col := col_131) #[(.int .i64 0), (.int .i64 0), (.int .i64 0), (.string (⟨#[]⟩))] 8 Tryz.zeroValue26 ?_;intro g_132 w_133 col_134 hg_135 hb_136;refine lAS rfl <| l_bsA hb_136 ?_;intro w_137 hk_138 hs_139 hb_140;refine go ?_;refine lFLb hb_140 ?_;refine go ?_;replace hb_117 := ((hb_117.gr hg_130).gr hg_135).kp hk_138;replace hmk := ((hmk.gr hg_130).gr hg_135).kp hk_138;replace hst := ((hst.grow hg_130).grow hg_135).kp hk_138 hs_139;refine wcb hm (fun hb hm => go ?_) fun hb hm => go ?_
   ·refine lW hb_117.at1 <| go ?_;cases hm;refine ⟨_, (D_123 :: (D_108 :: [])), rfl, hmk, ?_⟩;intro w_141 hk_142 hs_143;replace hst := hst.kp hk_142 hs_143;exact ⟨rfl, hst.below⟩
   refine lW hb_117.at1 <| go ?_;cases hm;refine ⟨_, (D_123 :: (D_108 :: [])), rfl, hmk, ?_⟩;intro w_144 hk_145 hs_146;replace hst := hst.kp hk_145 hs_146;exact ⟨rfl, hst.below⟩
  intro _ _ _ _ h;exact h.elim
 refine go ?_;refine bcb hm (fun hg_168 hm => go ?_) fun hg_168 hm => go ?_
 ·refine lV (.bool true) (r_pickT (congrArg Value.bool hg_168) rfl) <| lMB rfl <| lP 27 rfl rfl <| lP 27 rfl rfl <| lV (.bool true) (r_pickT rfl rfl) <| lMB rfl <| lP 31 rfl rfl <| lP 31 rfl rfl <| lV (.bool true) (r_pickT rfl rfl) <| lnil ?_;exact ⟨rfl, _, _, hm, hst, hb_5, rh_21, hgl, hmk, rfl⟩
 refine lV (.bool (!r_10)) (r_pickF (congrArg Value.bool hg_168) rfl) <| lMB rfl ?_;refine bcb hm (fun hg_169 hm => go ?_) fun hg_169 hm => go ?_
 ·refine lV (.bool true) (r_pickT (congrArg Value.bool hg_169) rfl) <| lMB rfl <| lP 31 rfl rfl <| lP 31 rfl rfl <| lV (.bool true) (r_pickT rfl rfl) <| lnil ?_;exact ⟨rfl, _, _, hm, hst, hb_5, rh_21, hgl, hmk, rfl⟩
 refine lV (.bool (!r_14)) (r_pickF (congrArg Value.bool hg_169) rfl) <| lMB rfl ?_;refine bcb hm (fun hg_170 hm => go ?_) fun hg_170 hm => go ?_
 ·refine lV (.bool true) (r_pickT (congrArg Value.bool hg_170) rfl) <| lnil ?_;exact ⟨rfl, _, _, hm, hst, hb_5, rh_21, hgl, hmk, rfl⟩
 refine lv (v := rv_20) rfl rfl (r_move rfl) <| go ?_;refine lV (.bool false) (r_eqlNilF rh_21 ⟨_, _, _, Tryz.underlying42⟩ rfl) <| lV (.bool false) (r_pickF (congrArg Value.bool hg_170) rfl) <| lnil ?_;exact ⟨rfl, _, _, hm, hst, hb_5, rh_21, hgl, hmk, rfl⟩
def eachL (l : List TokV) (f : Option FltV) : List (TokV × Option FltV) := l.map (fun x => (x, none)) ++ flL f
theorem get_lt' {α : Type} {xs : List α} {n : Nat} {c : α} (h : xs[n]? = some c) : n < xs.length := by
 rcases Nat.lt_or_ge n xs.length with h1 | h1
 ·exact h1
 ·rw [List.getElem?_eq_none h1] at h; cases h
theorem eachL_at {l : List TokV} {f : Option FltV} {n : Nat} {y : TokV × Option FltV} (h : (eachL l f)[n]? = some y) :
  (∃ hn : n < l.length, y = (l[n], none)) ∨ (n = l.length ∧ ∃ e, f = some e ∧ y = ((0, ⟨#[]⟩, 0, 0), some e)) := by
 rw [eachL] at h
 rcases Nat.lt_or_ge n l.length with hn | hn
 ·rw [List.getElem?_append_left (by rw [List.length_map]; exact hn), List.getElem?_map, List.getElem?_eq_getElem hn] at h
  cases h
  exact .inl ⟨hn, rfl⟩
 ·rw [List.getElem?_append_right (by rw [List.length_map]; exact hn), List.length_map] at h
  cases f with
  | none => rw [flL] at h; simp at h
  | some e =>
   rw [flL] at h
   have h1 := get_lt' h
   have : n = l.length := by simp at h1; omega
   subst this
   rw [Nat.sub_self] at h
   cases h
   exact .inr ⟨rfl, e, rfl, rfl⟩
theorem eachL_len (l : List TokV) (f : Option FltV) : (eachL l f).length = l.length + (if f.isSome = true then 1 else 0) := by
 rw [eachL, List.length_append, List.length_map]
 cases f <;> rfl
theorem drop_cons_at {α : Type} {xs : List α} {n : Nat} {y : α} {r : List α} (h : xs.drop n = y :: r) : xs[n]? = some y ∧ xs.drop (n + 1) = r ∧ n < xs.length := by
 have hn : n < xs.length := by
  rcases Nat.lt_or_ge n xs.length with h1 | h1
  ·exact h1
  ·rw [List.drop_eq_nil_of_le h1] at h; cases h
 rw [List.drop_eq_getElem_cons hn] at h
 cases h
 exact ⟨List.getElem?_eq_getElem hn, rfl, hn⟩
theorem walk_L1 {l : List TokV} {f : Option FltV} (hf : ∀ x, f = some x → x.1 ≠ 0) (hl : l.length ≤ 33554433) (most : Int) (hm : -9223372036854775808 ≤ most ∧ most ≤ 9223372036854775807) : ∀ (r : List (TokV × Option FltV)) (n : Nat) (v : Bool), (eachL l f).drop n = r → n ≤ (eachL l f).length → (most < 1 ∨ (n : Int) < most) →
  m_l06_walk_L1 most (l, fltO f) ((eachL l f).length : Int) r v (n : Int) = some true
 | [], n, v, hd, hn, hs => by
  have hle : (eachL l f).length ≤ n := List.drop_eq_nil_iff.1 hd
  have hnn : n = (eachL l f).length := by omega
  rw [m_l06_walk_L1.eq_1]
  by_cases h1 : 1 ≤ most
  ·rw [if_pos (decide_eq_true h1), if_pos (decide_eq_true (by
    split <;> omega))]; rfl
  ·rw [if_neg (nd h1), if_pos (decide_eq_true (by omega)), decide_eq_true (by omega)]; rfl
 | y :: r, n, v, hd, hn, hs => by
  obtain ⟨h1, h2, h3⟩ := drop_cons_at hd
  have hlen := eachL_len l f
  have hle : (eachL l f).length ≤ 33554434 := by rw [hlen]; split <;> omega
  have hy : ∀ x, y.2 = some x → x.1 ≠ 0 := by
   rcases eachL_at h1 with ⟨_, rfl⟩ | ⟨_, e, he, rfl⟩
   ·intro x e; cases e
   ·intro x e2; cases e2; exact hf _ he
  have ih := walk_L1 hf hl most hm r (n + 1) v h2 (by omega)
  have fin : m_l06_walk_J6 most ((eachL l f).length : Int) (n : Int) (m_l06_walk_L1 most (l, fltO f) ((eachL l f).length : Int) r) v = some true := by
   rw [m_l06_walk_J6, w64 (by omega), show (n : Int) + 1 = ((n + 1 : Nat) : Int) by omega]
   by_cases c : ((n + 1 : Nat) : Int) = most
   ·rw [if_pos (decide_eq_true c), m_l06_walk_L1_X0, if_pos (decide_eq_true (by omega)), if_pos (decide_eq_true (by split <;> omega))]; rfl
   ·rw [if_neg (nd c)]
    exact ih (by omega)
  rw [m_l06_walk_L1.eq_2, told06_eq hy, Option.bind_some, if_neg (by show ¬ (!true) = true; decide), decide_eq_false (by omega), m_l06_walk_J4, if_neg (by decide)]
  dsimp only
  rcases eachL_at h1 with ⟨hn2, rfl⟩ | ⟨rfl, e, rfl, rfl⟩
  ·rw [if_pos (decide_eq_true (by omega)), at?_lt hn2, Option.bind_some, if_neg (by dsimp only; rw [decide_eq_true rfl, decide_eq_true rfl, decide_eq_true rfl, decide_eq_true rfl]; decide), m_l06_walk_J8, if_neg (by exact fun e => by cases e), m_l06_walk_J5, if_neg (nd (by dsimp only; omega)), m_l06_walk_J7, if_neg (by decide)]
   exact fin
  ·have tt : ∀ (x : FltV), (!(decide (x.1 = x.1) && decide (x.2.1 = x.2.1) && decide (x.2.2.1 = x.2.2.1) && decide (x.2.2.2 = x.2.2.2))) = false := fun x => by
    rw [decide_eq_true rfl, decide_eq_true rfl, decide_eq_true rfl, decide_eq_true rfl]; rfl
   rw [if_neg (nd (by omega)), m_l06_walk_J8, if_neg (by decide), m_l06_walk_J5, if_pos (decide_eq_true rfl), if_neg (by show ¬ (!(decide ((0 : Int) = 0) && decide ((⟨#[]⟩ : ByteArray) = ⟨#[]⟩) && decide ((0 : Int) = 0) && decide ((0 : Int) = 0))) = true; decide)]
   dsimp only
   rw [tt, m_l06_walk_J7, if_neg (by decide)]
   exact fin
section
variable {N : Nat} {t : ByteArray} (ht : t.size ≤ 33554432) (hN : 33554467 ≤ N) {l : List TokV} {f : Option FltV} (h : LexR t 0 (1, 1) l f)
include ht hN h
theorem each_eq : m_lex_Each N t = some (eachL l f) := lex_each_eq ht (by omega) (by omega) h (by omega)
theorem walk_true (most : Int) (hm : -9223372036854775808 ≤ most ∧ most ≤ 9223372036854775807) : m_l06_walk N t most = some true := by
 have hf := h.facts (by omega)
 have hlen := eachL_len l f
 have hw := walk_L1 hf.2.2 (by omega) most hm (eachL l f) 0 false (List.drop_zero) (by omega) (by omega)
 rw [m_l06_walk, ref_all_eq ht (by omega) (by omega) h, Option.bind_some, each_eq ht hN h, Option.bind_some]
 cases f with
 | none =>
  rw [if_neg (by show ¬ (!decide ((0 : Int) = 0)) = true; decide), m_l06_walk_J1]
  have e : ((eachL l none).length : Int) = (l.length : Int) := by rw [hlen]; rfl
  rw [e] at hw
  exact hw
 | some e =>
  rw [if_pos (by show (!decide (e.1 = 0)) = true; rw [decide_eq_false (hf.2.2 e rfl)]; rfl), m_l06_walk_J1, w64 (by dsimp only; omega)]
  have e : ((eachL l (some e)).length : Int) = (l.length : Int) + 1 := by rw [hlen]; rfl
  rw [e] at hw
  exact hw
theorem count_end (m : Nat) (hm : m = (eachL l f).length) : ((m_r06_All N t).bind fun r_67 => if (!decide (r_67.2.1 = 0)) = true then (some (decide ((m : Int) = (IntKind.i64.wrap ((r_67.1.length : Int) + 1))))) else (some (decide ((m : Int) = (r_67.1.length : Int))))) = some true := by
 have hf := h.facts (by omega)
 have hlen := eachL_len l f
 rw [ref_all_eq ht (by omega) (by omega) h, Option.bind_some]
 cases f with
 | none =>
  rw [if_neg (by show ¬ (!decide ((0 : Int) = 0)) = true; decide), decide_eq_true]
  rw [hm, hlen]; rfl
 | some e =>
  rw [if_pos (by show (!decide (e.1 = 0)) = true; rw [decide_eq_false (hf.2.2 e rfl)]; rfl), w64 (by dsimp only; omega), decide_eq_true]
  rw [hm, hlen]; rfl
theorem count2 : ∀ (r : List (TokV × Option FltV)) (m : Nat), m + r.length = (eachL l f).length → m_l06_LexEach_L2 N t r (m : Int) = some true
 | [], m, hm => by
  rw [m_l06_LexEach_L2.eq_1]
  exact count_end ht hN h m (by simpa using hm)
 | y :: r, m, hm => by
  have hf := h.facts (by omega)
  have hlen := eachL_len l f
  have : (eachL l f).length ≤ 33554434 := by rw [hlen]; split <;> omega
  rw [List.length_cons] at hm
  rw [m_l06_LexEach_L2.eq_2, w64 (by omega), show (m : Int) + 1 = ((m + 1 : Nat) : Int) by omega]
  exact count2 r (m + 1) (by omega)
theorem count3 : ∀ (r : List (TokV × Option FltV)) (m : Nat), m + r.length = (eachL l f).length → m_l06_LexEach_L3 N t r (m : Int) = some true
 | [], m, hm => by
  rw [m_l06_LexEach_L3.eq_1]
  exact count_end ht hN h m (by simpa using hm)
 | y :: r, m, hm => by
  have hf := h.facts (by omega)
  have hlen := eachL_len l f
  have : (eachL l f).length ≤ 33554434 := by rw [hlen]; split <;> omega
  rw [List.length_cons] at hm
  rw [m_l06_LexEach_L3.eq_2, w64 (by omega), show (m : Int) + 1 = ((m + 1 : Nat) : Int) by omega]
  exact count3 r (m + 1) (by omega)
theorem count1 (most : Int) : ∀ (r : List (TokV × Option FltV)) (n : Nat), n + r.length ≤ (eachL l f).length → m_l06_LexEach_L1 N t most (eachL l f) r (n : Int) = some true
 | [], n, hn => by
  rw [m_l06_LexEach_L1.eq_1]
  exact count2 ht hN h _ 0 (by omega)
 | y :: r, n, hn => by
  have hf := h.facts (by omega)
  have hlen := eachL_len l f
  have : (eachL l f).length ≤ 33554434 := by rw [hlen]; split <;> omega
  rw [List.length_cons] at hn
  rw [m_l06_LexEach_L1.eq_2, w64 (by omega), show (n : Int) + 1 = ((n + 1 : Nat) : Int) by omega]
  split
  ·rw [m_l06_LexEach_L1_X0]
   exact count3 ht hN h _ 0 (by omega)
  ·exact count1 most r (n + 1) (by omega)
end
theorem lexEach_true (t : ByteArray) (most : Int) (ht : t.size ≤ 33554432) (hm : -9223372036854775808 ≤ most ∧ most ≤ 9223372036854775807) : m_l06_LexEach 33554467 t most = some true := by
 obtain ⟨l, f, h⟩ := lexR_ex t t.size 0 (1, 1) (by omega) (by omega)
 rw [m_l06_LexEach, awake_true, Option.bind_some, walk_true ht (by omega) h most hm, Option.bind_some, walk_true ht (by omega) h 0 (by omega), Option.bind_some, each_eq ht (by omega) h, Option.bind_some, if_neg (by decide), if_neg (by decide), if_neg (by decide), m_l06_LexEach_J1, if_neg (by decide)]
 exact count1 ht (by omega) h most _ 0 (by omega)

end Go.Proofs.YtnfegieaaaigmaaGreatDoor
