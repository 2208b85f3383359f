/-
  What functions of the program compute, as plain Lean functions (m_..), and proofs that they compute it (c_..). Printed by a program of the author; no conditions.
-/
import Derived.Test.YtnfegieaaaigmaaGreatDoorLexScanBFloat
import Derived.Test.YtnfegieaaaigmaaGreatDoorProg
import Derived.Test.YtnfegieaaaigmaaGreatDoorLexScanBAsP
import Derived.Test.YtnfegieaaaigmaaGreatDoorLexScanBBrief
import Derived.Test.YtnfegieaaaigmaaGreatDoorLexScanBEq4
import Derived.Test.YtnfegieaaaigmaaGreatDoorLexScanBErr
import Derived.Test.YtnfegieaaaigmaaGreatDoorLexScanBQuoP
import Derived.Test.YtnfegieaaaigmaaGreatDoorLexScanF1
set_option linter.unusedVariables false
set_option linter.unusedSectionVars false
set_option maxRecDepth 100000
set_option maxHeartbeats 2000000
namespace Go.Proofs.YtnfegieaaaigmaaGreatDoor
open Go Go.RowKit

/-! ### what the library finds -/
def bi (b : UInt8) : Int := (b.toNat : Int)
theorem bi_inj {a b : UInt8} : bi a = bi b ↔ a = b := ⟨fun h => UInt8.toNat_inj.1 (Int.ofNat.inj h), fun h => by rw [h]⟩
theorem pref2_eq (s : ByteArray) (a b : UInt8) : m_pref s ⟨#[a, b]⟩ = some (decide ((sints s)[0]? = some (bi a) ∧ (sints s)[1]? = some (bi b))) := by
 rw [m_pref, sints]
 show some (Lib.hasPrefix s.data.toList [a, b]) = _
 generalize s.data.toList = L
 congr 1
 match L with
 | [] => rfl
 | [x] => simp [Lib.hasPrefix, List.isPrefixOf]
 | x :: y :: r =>
  simp only [Lib.hasPrefix, List.isPrefixOf, List.map_cons, List.getElem?_cons_zero, List.getElem?_cons_succ, Option.some.injEq, Bool.and_true]
  rw [Bool.eq_iff_iff, Bool.and_eq_true, beq_iff_eq, beq_iff_eq, decide_eq_true_iff]
  exact ⟨fun h => ⟨by rw [h.1]; rfl, by rw [h.2]; rfl⟩, fun h => ⟨(bi_inj.1 h.1).symm, (bi_inj.1 h.2).symm⟩⟩
theorem pref_sl (s : ByteArray) : m_pref s ⟨#[47, 47]⟩ = some (decide ((sints s)[0]? = some 47 ∧ (sints s)[1]? = some 47)) := pref2_eq s 47 47
theorem pref_st (s : ByteArray) : m_pref s ⟨#[47, 42]⟩ = some (decide ((sints s)[0]? = some 47 ∧ (sints s)[1]? = some 42)) := pref2_eq s 47 42
theorem idx_nl : ∀ (L : List UInt8), Lib.indexByte L 10 = if runS nlB (L.map bi) < L.length then ((runS nlB (L.map bi) : Nat) : Int) else -1
 | [] => rfl
 | b :: L => by
  rw [Lib.indexByte, List.map_cons, runS_cons, idx_nl L, List.length_cons]
  by_cases h : b = 10
  ·subst h; rw [if_pos (by decide), if_neg (show ¬ nlB (bi 10) = true by decide), if_pos (by omega)]; rfl
  ·have hb : nlB (bi b) = true := by
    rw [nlB, decide_eq_false]
    ·rfl
    ·intro e; exact h (bi_inj.1 (e.trans (show (10 : Int) = bi 10 from rfl)))
   rw [if_neg (by simpa using h), if_pos hb]
   by_cases hr : runS nlB (L.map bi) < L.length
   ·rw [if_pos hr, if_neg (by simp <;> omega), if_pos (show runS nlB (L.map bi) + 1 < L.length + 1 by omega)]; omega
   ·rw [if_neg hr, if_pos (by decide), if_neg (show ¬ runS nlB (L.map bi) + 1 < L.length + 1 by omega)]
theorem idxb_nl (s : ByteArray) : m_idxb s 10 = some (if runS nlB (sints s) < s.size then ((runS nlB (sints s) : Nat) : Int) else -1) := by
 rw [m_idxb]
 have := idx_nl s.data.toList
 rw [Array.length_toList] at this
 exact congrArg some this
theorem idx_mem : ∀ (L : List UInt8) (b : UInt8), decide (0 ≤ Lib.indexByte L b) = decide (b ∈ L)
 | [], b => by simp [Lib.indexByte]
 | c :: L, b => by
  rw [Lib.indexByte]
  by_cases h : c = b
  ·subst h; simp
  ·have ih := idx_mem L b
   have hg := Lib.indexByte_ge L b
   rw [if_neg (by simpa using h)]
   have h2 : (b ∈ c :: L) ↔ b ∈ L := ⟨fun e => (List.mem_cons.1 e).resolve_left (fun e => h e.symm), List.mem_cons_of_mem _⟩
   rw [decide_eq_decide.2 h2, ← ih]
   by_cases e : Lib.indexByte L b = -1
   ·rw [if_pos (by rw [e]; rfl), e]
   ·rw [if_neg (by simpa using e)]
    exact decide_eq_decide.2 ⟨fun _ => by omega, fun _ => by omega⟩
theorem idxb_mem (s : ByteArray) (c : Int) (hc : 0 ≤ c ∧ c < 256) : ∃ r, m_idxb s c = some r ∧ decide (0 ≤ r) = decide (c ∈ sints s) := by
 refine ⟨_, rfl, ?_⟩
 rw [idx_mem]
 have e : bi c.toNat.toUInt8 = c := by
  show ((c.toNat.toUInt8.toNat : Nat) : Int) = c
  rw [UInt8.toNat_ofNat']
  omega
 refine decide_eq_decide.2 ⟨fun h => ?_, fun h => ?_⟩
 ·rw [← e]; exact List.mem_map_of_mem h
 ·obtain ⟨b, hb, h2⟩ := List.mem_map.1 h
  have : b = c.toNat.toUInt8 := bi_inj.1 (by rw [e]; exact h2)
  rwa [← this]
theorem idxb_blk (c : Int) (hc : 0 ≤ c ∧ c < 256) : ∃ r, m_idxb ⟨#[32, 9, 10, 13]⟩ c = some r ∧ decide (0 ≤ r) = blkB c := idxb_mem _ c hc
theorem idxb_sgn (c : Int) (hc : 0 ≤ c ∧ c < 256) : ∃ r, m_idxb ⟨#[123, 125, 40, 41, 91, 93, 44, 59, 124, 61, 43, 45, 42, 47]⟩ c = some r ∧ decide (0 ≤ r) = sgnB c := idxb_mem _ c hc
theorem head_rng (s : ByteArray) : 0 ≤ (sints s).headD 0 ∧ (sints s).headD 0 < 256 := by
 cases hc : sints s with
 | nil => decide
 | cons c l => exact sints_rng (s := s) (by rw [hc]; exact List.mem_cons_self)
theorem idx_cls : ∀ (L : List UInt8), Lib.index L [42, 47] = match clsS (L.map bi) with | none => -1 | some k => (k : Int) - 2
 | [] => rfl
 | b :: L => by
  rw [Lib.index, List.map_cons, clsS, idx_cls L]
  have hp : (([42, 47] : List UInt8).isPrefixOf (b :: L) = true) ↔ (bi b = 42 ∧ (L.map bi)[0]? = some 47) := by
   cases L with
   | nil => simp [List.isPrefixOf]
   | cons d r =>
    simp only [List.isPrefixOf, List.map_cons, List.getElem?_cons_zero, Option.some.injEq, Bool.and_true]
    rw [Bool.and_eq_true, beq_iff_eq, beq_iff_eq]
    exact ⟨fun h => ⟨by rw [← h.1]; rfl, by rw [← h.2]; rfl⟩, fun h => ⟨(bi_inj.1 (h.1.trans (show (42 : Int) = bi 42 from rfl))).symm, (bi_inj.1 (h.2.trans (show (47 : Int) = bi 47 from rfl))).symm⟩⟩
  by_cases h : bi b = 42 ∧ (L.map bi)[0]? = some 47
  ·rw [if_pos (hp.2 h), if_pos h]; rfl
  ·rw [if_neg (fun e => h (hp.1 e)), if_neg h]
   cases hc : clsS (L.map bi) with
   | none => rfl
   | some k =>
    have := clsS_le _ _ hc
    simp only [Option.map_some]
    rw [if_neg (by simp; omega)]
    show (k : Int) - 2 + 1 = ((k + 1 : Nat) : Int) - 2
    omega
theorem idx_eq (s : ByteArray) (hs : s.size ≤ 33554432) : m_idx s ⟨#[42, 47]⟩ = some (match clsS (sints s) with | none => -1 | some k => (k : Int) - 2) := by
 rw [m_idx, chk_pos (by omega)]
 exact congrArg some (idx_cls _)
/-! ### passing over bytes -/
def plc (xs : List Int) (p : Int × Int) : Int × Int := xs.foldl (fun p x => if x = 10 then (p.1 + 1, 1) else (p.1, p.2 + 1)) p
theorem plc_cons (x : Int) (xs : List Int) (p : Int × Int) : plc (x :: xs) p = plc xs (if x = 10 then (p.1 + 1, 1) else (p.1, p.2 + 1)) := rfl
theorem plc_app (a b : List Int) (p : Int × Int) : plc (a ++ b) p = plc b (plc a p) := List.foldl_append
def Bd (p : Int × Int) (k : Nat) : Prop := 0 ≤ p.1 ∧ p.1 ≤ (k : Int) + 1 ∧ 0 ≤ p.2 ∧ p.2 ≤ (k : Int) + 1
theorem Bd.plc : ∀ {xs : List Int} {p : Int × Int} {k : Nat}, Bd p k → Bd (plc xs p) (k + xs.length)
 | [], p, k, h => h
 | x :: xs, p, k, h => by
  rw [plc_cons, List.length_cons, show k + (xs.length + 1) = (k + 1) + xs.length by omega]
  refine Bd.plc ?_
  obtain ⟨h1, h2, h3, h4⟩ := h
  split <;> refine ⟨?_, ?_, ?_, ?_⟩ <;> dsimp only <;> omega
theorem pass_L1 (n : Int) (text : ByteArray) (a : Int) : ∀ (xs : List Int) (p : Int × Int) (k : Nat), Bd p k → k + xs.length ≤ 1099511627776 →
  m_lex_reader_pass_L1 n xs text a p.1 p.2 = some (text, IntKind.i64.wrap (a + n), (plc xs p).1, (plc xs p).2)
 | [], p, k, _, _ => by rw [m_lex_reader_pass_L1.eq_1]; rfl
 | x :: xs, p, k, hb, hk => by
  rw [List.length_cons] at hk
  have hb1 : Bd (if x = 10 then (p.1 + 1, 1) else (p.1, p.2 + 1)) (k + 1) := Bd.plc (xs := [x]) hb
  have ih := pass_L1 n text a xs _ (k + 1) hb1 (by omega)
  obtain ⟨h1, h2, h3, h4⟩ := hb
  rw [m_lex_reader_pass_L1.eq_2, plc_cons, ← ih]
  by_cases h : x = 10
  ·rw [if_pos (decide_eq_true h), if_pos h, m_lex_reader_pass_J1, w64 (by omega)]
  ·rw [if_neg (nd h), if_neg h, m_lex_reader_pass_J1, w64 (by omega)]
section
variable {N : Nat} {t : ByteArray} (ht : t.size ≤ 33554432)
include ht
theorem pass_eq {a n : Nat} {p : Int × Int} (hb : Bd p a) (hn : a + n ≤ t.size) :
  m_lex_reader_pass (t, (a : Int), p.1, p.2) (n : Int) = some (t, ((a + n : Nat) : Int), (plc (((sints t).drop a).take n) p).1, (plc (((sints t).drop a).take n) p).2) := by
 have e : sints (t.extract a (a + n)) = ((sints t).drop a).take n := by rw [sints_extract, List.drop_take]; congr 1; omega
 have hz : (t.extract a (a + n)).size = n := by rw [← sints_len, e, List.length_take, List.length_drop, sints_len]; omega
 rw [m_lex_reader_pass]
 dsimp only
 rw [w64 (by omega), chk_pos (by omega), show Int.toNat (a : Int) = a from rfl, show Int.toNat ((a : Int) + (n : Int)) = a + n by omega, chk_pos (by rw [hz]; simp only [maxLen]; omega), e]
 rw [pass_L1 (n : Int) t (a : Int) _ p a hb (by rw [← e, sints_len, hz]; omega), w64 (by omega)]
 rfl
end
inductive BlR (t : ByteArray) : Nat → Int × Int → Bool → Nat → Int × Int → Prop
 | fin {a p} : t.size = a → BlR t a p true a p
 | done {a p} : a < t.size → skS ((sints t).drop a) = some 0 → BlR t a p true a p
 | opn {a p} : a < t.size → skS ((sints t).drop a) = none → BlR t a p false a p
 | skip {a p k ok a' p'} : a < t.size → skS ((sints t).drop a) = some k → 0 < k → a + k ≤ t.size → BlR t (a + k) (plc (((sints t).drop a).take k) p) ok a' p' → BlR t a p ok a' p'
theorem BlR.le {t : ByteArray} {a a' : Nat} {p p' : Int × Int} {ok : Bool} (h : BlR t a p ok a' p') : a' ≤ t.size ∧ a ≤ a' ∧ (Bd p a → Bd p' a') := by
 induction h with
 | fin h => exact ⟨by omega, Nat.le_refl _, id⟩
 | done h _ => exact ⟨by omega, Nat.le_refl _, id⟩
 | opn h _ => exact ⟨by omega, Nat.le_refl _, id⟩
 | @skip a p k ok a' p' h1 h2 h3 h4 _ ih =>
  refine ⟨ih.1, by omega, fun hb => ih.2.2 ?_⟩
  have := hb.plc (xs := ((sints t).drop a).take k)
  rwa [List.length_take, List.length_drop, sints_len, Nat.min_eq_left (by omega)] at this
section
variable {N : Nat} {t : ByteArray} (ht : t.size ≤ 33554432)
include ht
theorem blanks_L1 {a a' : Nat} {p p' : Int × Int} {ok : Bool} (h : BlR t a p ok a' p') (hb : Bd p a) : ∀ f, t.size < f + a → m_lex_reader_blanks_L1 N f t (a : Int) p.1 p.2 = some (ok, (t, (a' : Int), p'.1, p'.2)) := by
 induction h with
 | @fin a p h =>
  intro f hf
  obtain ⟨f, rfl⟩ : ∃ g, f = g + 1 := ⟨f - 1, by omega⟩
  have he : t.extract a t.size = ⟨#[]⟩ := ext_eq (by rw [sints_suf, List.drop_eq_nil_of_le (by rw [sints_len]; omega)]; rfl)
  rw [m_lex_reader_blanks_L1.eq_2, chk_pos (by omega), show Int.toNat (a : Int) = a from rfl, show Int.toNat (t.size : Int) = t.size from rfl, if_pos (decide_eq_true he)]
 | @done a p h1 h2 =>
  intro f hf
  obtain ⟨f, rfl⟩ : ∃ g, f = g + 1 := ⟨f - 1, by omega⟩
  have hl := sints_len (t.extract a t.size)
  have hx := sints_suf t a
  have hz : (t.extract a t.size).size = t.size - a := by rw [← hl, hx, List.length_drop, sints_len]
  rw [m_lex_reader_blanks_L1.eq_2, chk_pos (by omega), show Int.toNat (a : Int) = a from rfl, show Int.toNat (t.size : Int) = t.size from rfl, if_neg (nd (fun e => by rw [e] at hz; change (0 : Nat) = _ at hz; omega))]
  rw [← hx] at h2
  have hm := idxb_blk ((sints (t.extract a t.size)).headD 0) (head_rng _)
  obtain ⟨r, hr, hr2⟩ := hm
  rw [skS] at h2
  split at h2
  ·rename_i h47
   have h0 := run_one (B := nlB) (i := 0) h47.1 rfl
   rw [List.drop_zero] at h0
   have := Option.some.inj h2
   omega
  ·rename_i h47
   rw [pref_sl, Option.bind_some, if_neg (nd h47)]
   split at h2
   ·obtain ⟨k, _, e⟩ := Option.map_eq_some_iff.1 h2
    omega
   ·rename_i h42
    rw [pref_st, Option.bind_some, if_neg (nd h42), head_at (by omega), Option.bind_some, hr, Option.bind_some]
    split at h2
    ·cases h2
    ·rename_i hbk
     rw [hr2, if_neg (fun e => hbk e)]
 | @opn a p h1 h2 =>
  intro f hf
  obtain ⟨f, rfl⟩ : ∃ g, f = g + 1 := ⟨f - 1, by omega⟩
  have hl := sints_len (t.extract a t.size)
  have hx := sints_suf t a
  have hz : (t.extract a t.size).size = t.size - a := by rw [← hl, hx, List.length_drop, sints_len]
  rw [m_lex_reader_blanks_L1.eq_2, chk_pos (by omega), show Int.toNat (a : Int) = a from rfl, show Int.toNat (t.size : Int) = t.size from rfl, if_neg (nd (fun e => by rw [e] at hz; change (0 : Nat) = _ at hz; omega))]
  rw [← hx] at h2
  rw [skS] at h2
  split at h2
  ·cases h2
  ·rename_i h47
   rw [pref_sl, Option.bind_some, if_neg (nd h47)]
   split at h2
   ·rename_i h42
    have := get_lt h42.2
    have hq : sints ((t.extract a t.size).extract 2 (t.extract a t.size).size) = (sints (t.extract a t.size)).drop 2 := sints_suf _ _
    have hq2 : ((t.extract a t.size).extract 2 (t.extract a t.size).size).size ≤ 33554432 := by rw [ByteArray.size_extract]; omega
    rw [pref_st, Option.bind_some, if_pos (decide_eq_true h42), chk_pos (by omega), show Int.toNat 2 = 2 from rfl, show Int.toNat ((t.extract a t.size).size : Int) = (t.extract a t.size).size from rfl, idx_eq _ hq2, hq, Option.map_eq_none_iff.1 h2, Option.bind_some, if_pos (by decide)]
   ·split at h2 <;> cases h2
 | @skip a p k ok a' p' h1 h2 h3 h4 _ ih =>
  intro f hf
  obtain ⟨f, rfl⟩ : ∃ g, f = g + 1 := ⟨f - 1, by omega⟩
  have hl := sints_len (t.extract a t.size)
  have hx := sints_suf t a
  have hz : (t.extract a t.size).size = t.size - a := by rw [← hl, hx, List.length_drop, sints_len]
  have hb1 : Bd (plc (((sints t).drop a).take k) p) (a + k) := by
   have := hb.plc (xs := ((sints t).drop a).take k)
   rwa [List.length_take, List.length_drop, sints_len, Nat.min_eq_left (by omega)] at this
  have hp := pass_eq ht hb h4
  have hgo := ih hb1 f (by omega)
  rw [m_lex_reader_blanks_L1.eq_2, chk_pos (by omega), show Int.toNat (a : Int) = a from rfl, show Int.toNat (t.size : Int) = t.size from rfl, if_neg (nd (fun e => by rw [e] at hz; change (0 : Nat) = _ at hz; omega))]
  rw [← hx] at h2
  have hm := idxb_blk ((sints (t.extract a t.size)).headD 0) (head_rng _)
  obtain ⟨r, hr, hr2⟩ := hm
  rw [skS] at h2
  split at h2
  ·rename_i h47
   have hk := Option.some.inj h2
   rw [pref_sl, Option.bind_some, if_pos (decide_eq_true h47), idxb_nl, Option.bind_some, hk]
   by_cases hlt : k < (t.extract a t.size).size
   ·rw [if_pos hlt, if_neg (nd (by omega)), m_lex_reader_blanks_J1, hp, Option.bind_some]; exact hgo
   ·rw [if_neg hlt, if_pos (by decide), m_lex_reader_blanks_J1, show (t.extract a t.size).size = k by omega, hp, Option.bind_some]; exact hgo
  ·rename_i h47
   rw [pref_sl, Option.bind_some, if_neg (nd h47)]
   split at h2
   ·rename_i h42
    have := get_lt h42.2
    obtain ⟨q, hq1, rfl⟩ := Option.map_eq_some_iff.1 h2
    have hq2' := clsS_le _ _ hq1
    have hq : sints ((t.extract a t.size).extract 2 (t.extract a t.size).size) = (sints (t.extract a t.size)).drop 2 := sints_suf _ _
    have hq2 : ((t.extract a t.size).extract 2 (t.extract a t.size).size).size ≤ 33554432 := by rw [ByteArray.size_extract]; omega
    have hi : m_idx ((t.extract a t.size).extract 2 (t.extract a t.size).size) ⟨#[42, 47]⟩ = some ((q : Int) - 2) := by rw [idx_eq _ hq2, hq, hq1]
    rw [pref_st, Option.bind_some, if_pos (decide_eq_true h42), chk_pos (by omega), show Int.toNat 2 = 2 from rfl, show Int.toNat ((t.extract a t.size).size : Int) = (t.extract a t.size).size from rfl, hi, Option.bind_some, if_neg (nd (by omega)), w64 (by omega), show (q : Int) - 2 + 4 = ((q + 2 : Nat) : Int) by omega, hp, Option.bind_some]
    exact hgo
   ·rename_i h42
    rw [pref_st, Option.bind_some, if_neg (nd h42), head_at (by omega), Option.bind_some, hr, Option.bind_some]
    split at h2
    ·rename_i hbk
     have := Option.some.inj h2
     subst this
     rw [hr2, if_pos hbk, show (1 : Int) = ((1 : Nat) : Int) from rfl, hp, Option.bind_some]; exact hgo
    ·have := Option.some.inj h2; omega
theorem blanks_eq {a a' : Nat} {p p' : Int × Int} {ok : Bool} (h : BlR t a p ok a' p') (hb : Bd p a) (hN : t.size < N) : m_lex_reader_blanks N (t, (a : Int), p.1, p.2) = some (ok, (t, (a' : Int), p'.1, p'.2)) := by
 rw [m_lex_reader_blanks]
 exact blanks_L1 ht h hb N (by omega)
end
theorem head_get : ∀ (xs : List Int) (h : 0 < xs.length), xs[0]'h = xs.headD 0
 | c :: r, _ => rfl
theorem intS_ge (xs : List Int) : runS digB xs ≤ intS xs := by
 rw [intS]; split <;> omega
theorem expK_ge (xs : List Int) (n : Nat) : n < expK xs n := by
 rw [expK]; split <;> omega
theorem expS_ge (xs : List Int) (n : Nat) : n ≤ (expS xs n).1 := by
 rw [expS]
 split
 ·have := expK_ge xs n
  show n ≤ expK xs n + _
  omega
 ·exact Nat.le_refl _
theorem head_run {B : Int → Bool} {xs : List Int} (h : B (xs.headD 0) = true) (h0 : xs ≠ []) : 1 ≤ runS B xs := by
 cases xs with
 | nil => exact absurd rfl h0
 | cons c r => rw [runS_cons, if_pos (show B c = true from h)]; omega
theorem tokS_le {s : ByteArray} (h0 : 1 ≤ s.size) (hc : (tokS s).2.2.1 = 0) : (tokS s).1 ≤ s.size ∧ 1 ≤ (tokS s).1 ∧ (tokS s).2.1.1 ≠ 0 := by
 have hl := sints_len s
 have hne : sints s ≠ [] := fun e => by rw [e] at hl; simp at hl; omega
 rw [tokS] at hc ⊢
 split at hc
 ·rename_i c1
  have := head_run c1 hne
  have := runS_le wrdB (sints s)
  have h2 : 1 ≤ runS wrdB (sints s) := head_run (by rw [wrdB, c1]; rfl) hne
  rw [if_pos c1]
  split at hc
  ·cases hc
  ·rename_i c2
   rw [if_neg c2]; exact ⟨by show runS _ _ ≤ _; omega, h2, by show (1 : Int) ≠ 0; decide⟩
 ·rename_i c1
  rw [if_neg c1]
  split at hc
  ·rename_i c2
   rw [if_pos c2]
   have h1 := head_run c2 hne
   have h2 := intS_ge (sints s)
   have h3 := expS_ge (sints s) (intS (sints s))
   have h4 := expS_le (sints s) (intS_le (sints s))
   split at hc
   ·cases hc
   ·rename_i c3
    rw [if_neg c3]; exact ⟨by show (expS _ _).1 ≤ _; omega, by show 1 ≤ (expS _ _).1; omega, by show (2 : Int) ≠ 0; decide⟩
  ·rename_i c2
   rw [if_neg c2]
   split at hc
   ·rename_i c3
    rw [if_pos c3]
    cases hq : qtS ((sints s).drop 1) with
    | none => rw [hq] at hc; cases hc
    | some p =>
     have := qtS_rng _ p (fun x hx => sints_rng (List.mem_of_mem_drop hx)) hq
     rw [List.length_drop] at this
     exact ⟨by show 1 + p.1 ≤ _; omega, by show 1 ≤ 1 + p.1; omega, by show (3 : Int) ≠ 0; decide⟩
   ·rename_i c3
    rw [if_neg c3]
    split at hc
    ·rename_i c4
     rw [if_pos c4]; exact ⟨h0, Nat.le_refl 1, by show (4 : Int) ≠ 0; decide⟩
    ·cases hc
def nxR (t : ByteArray) (a : Nat) (p : Int × Int) (T : Nat × (Int × ByteArray) × (Int × ByteArray)) : (Int × ByteArray × Int × Int) × (Option (Int × Int × Int × ByteArray)) × (ByteArray × Int × Int × Int) :=
 if T.2.2.1 = 0 then ((T.2.1.1, T.2.1.2, p.1, p.2), none, (t, ((a + T.1 : Nat) : Int), (plc (((sints t).drop a).take T.1) p).1, (plc (((sints t).drop a).take T.1) p).2))
 else ((0, ⟨#[]⟩, 0, 0), some (T.2.2.1, p.1, p.2, T.2.2.2), (t, (a : Int), p.1, p.2))
section
variable {N : Nat} {t : ByteArray} (ht : t.size ≤ 33554432) (hN : t.size < N)
include ht hN
theorem next_opn {a a' : Nat} {p p' : Int × Int} (h : BlR t a p false a' p') (hb : Bd p a) :
  m_lex_reader_next N (t, (a : Int), p.1, p.2) = some ((0, ⟨#[]⟩, 0, 0), some (21, p'.1, p'.2, ⟨#[47, 42]⟩), (t, (a' : Int), p'.1, p'.2)) := by
 rw [m_lex_reader_next]
 dsimp only
 rw [blanks_eq ht h hb hN, Option.bind_some, if_pos (by rfl), m_fail, Option.bind_some]
theorem next_fin {a : Nat} {p p' : Int × Int} (h : BlR t a p true t.size p') (hb : Bd p a) :
  m_lex_reader_next N (t, (a : Int), p.1, p.2) = some ((0, ⟨#[]⟩, p'.1, p'.2), none, (t, (t.size : Int), p'.1, p'.2)) := by
 have he : t.extract t.size t.size = ⟨#[]⟩ := ext_eq (by rw [sints_suf, List.drop_eq_nil_of_le (by rw [sints_len]; omega)]; rfl)
 rw [m_lex_reader_next]
 dsimp only
 rw [blanks_eq ht h hb hN, Option.bind_some]
 dsimp only
 rw [if_neg (by decide), chk_pos (by omega), show Int.toNat (t.size : Int) = t.size from rfl, if_pos (decide_eq_true he)]
theorem next_tok {a a' : Nat} {p p' : Int × Int} (h : BlR t a p true a' p') (hb : Bd p a) (hlt : a' < t.size) :
  m_lex_reader_next N (t, (a : Int), p.1, p.2) = some (nxR t a' p' (tokS (t.extract a' t.size))) := by
 have hb' := h.le.2.2 hb
 have hz : (t.extract a' t.size).size = t.size - a' := by rw [ByteArray.size_extract]; omega
 rw [m_lex_reader_next]
 dsimp only
 rw [blanks_eq ht h hb hN, Option.bind_some]
 dsimp only
 rw [if_neg (by decide), chk_pos (by omega), show Int.toNat (a' : Int) = a' from rfl, show Int.toNat (t.size : Int) = t.size from rfl, if_neg (nd (fun e => by rw [e] at hz; change (0 : Nat) = _ at hz; omega))]
 have hs : (t.extract a' t.size).size ≤ 1099511627776 := by omega
 have hNs : (t.extract a' t.size).size < N := by omega
 have h1s : 1 ≤ (t.extract a' t.size).size := by omega
 have hx : (t.extract a' t.size) = t.extract (Int.toNat (a' : Int)) (Int.toNat (t.size : Int)) := rfl
 have hJ : ∀ (k : Nat) (kd : Int) (tx : ByteArray), a' + k ≤ t.size → m_lex_reader_next_J1 (true, (t, (a' : Int), p'.1, p'.2)) 0 (⟨#[]⟩) 0 0 kd tx p'.1 p'.2 (k : Int) = some (nxR t a' p' (k, (kd, tx), (0, ⟨#[]⟩))) := by
  intro k kd tx hk
  rw [m_lex_reader_next_J1]
  dsimp only
  rw [pass_eq ht hb' hk, Option.bind_some, nxR, if_pos rfl]
 have hB : ∀ (k : Nat) (kd c : Int) (tx w : ByteArray), c ≠ 0 → some (nxR t a' p' (k, (kd, tx), (c, w))) = some ((0, ⟨#[]⟩, 0, 0), some (c, p'.1, p'.2, w), (t, (a' : Int), p'.1, p'.2)) := by
  intro k kd c tx w hc
  rw [nxR, if_neg hc]
 have hJ2 : ∀ (b : Bool) (n : Nat) (D : ByteArray), a' + n ≤ t.size → m_lex_reader_next_J2 N (true, (t, (a' : Int), p'.1, p'.2)) ((n : Int), D) b = some (nxR t a' p' (if b = true then (0, (0, ⟨#[]⟩), (22, (t.extract a' t.size).extract 0 (n + runS wrdB ((sints (t.extract a' t.size)).drop n)))) else (n, (2, (t.extract a' t.size).extract 0 n), (0, ⟨#[]⟩)))) := by
  intro b n D hn
  rw [m_lex_reader_next_J2]
  dsimp only
  rw [← hx]
  cases b with
  | true =>
   have := run_drop_le wrdB (sints (t.extract a' t.size)) n
   rw [sints_len] at this
   rw [if_pos rfl, if_pos rfl, lex_run_eq hs (by omega) hNs, Option.bind_some, w64 (by omega), chk_pos (by omega), m_fail, Option.bind_some, hB _ _ _ _ _ (by decide)]; rfl
  | false => rw [if_neg (by decide), if_neg (by decide)]; exact hJ n _ _ hn
 generalize t.extract a' t.size = s at hz hs hNs h1s hJ2
 have hl := sints_len s
 have hw : m_lex_run_v2f36 N s 0 = some ((runS wrdB (sints s) : Nat) : Int) := lex_run_eq (N := N) hs (at_ := 0) (by omega) hNs
 have hr := runS_le wrdB (sints s)
 rw [head_at h1s, Option.bind_some, Option.bind_some, Option.bind_some, Option.bind_some, lex_letter_eq, Option.bind_some, lex_digit_eq, Option.bind_some]
 rw [tokS]
 by_cases c1 : letB ((sints s).headD 0) = true
 ·rw [if_pos c1, if_pos c1, hw, Option.bind_some]
  by_cases c2 : 64 < runS wrdB (sints s)
  ·rw [if_pos c2, chk_pos (by omega), if_pos (decide_eq_true (by omega)), chk_pos (by omega), m_fail, Option.bind_some, hB _ _ _ _ _ (by decide)]; rfl
  ·rw [if_neg c2, chk_pos (by omega), if_neg (nd (by omega))]
   exact hJ _ _ _ (by omega)
 ·rw [if_neg c1, if_neg c1]
  by_cases c2 : digB ((sints s).headD 0) = true
  ·rw [if_pos c2, if_pos c2]
   obtain ⟨D, hD, hD2⟩ := lex_number_eq hs hNs
   have hn := expS_le (sints s) (intS_le (sints s))
   have hdg := expS_digs (sints s) (intS (sints s))
   rw [hD, Option.bind_some]
   generalize expS (sints s) (intS (sints s)) = e at hn hdg hD2
   have hlg : m_lex_large D = some (bigS e.2) := by rw [lex_large_eq (by rw [hD2]; exact hdg), hD2]
   rw [chk_pos (by dsimp only; omega), hlg, Option.bind_some]
   dsimp only
   by_cases c3 : bigS e.2 = true
   ·rw [if_pos c3, if_pos (.inl c3), hJ2 true e.1 D (by omega), if_pos rfl]
   ·rw [if_neg c3]
    have hc4 : (if (decide ((e.1 : Int) < (s.size : Int))) = true then ((bat? s (e.1 : Int)).bind fun e_155 => (m_lex_letter e_155).bind fun r_157 => m_lex_reader_next_J2 N (true, (t, (a' : Int), p'.1, p'.2)) ((e.1 : Int), D) r_157) else (m_lex_reader_next_J2 N (true, (t, (a' : Int), p'.1, p'.2)) ((e.1 : Int), D) false)) = m_lex_reader_next_J2 N (true, (t, (a' : Int), p'.1, p'.2)) ((e.1 : Int), D) (letB (((sints s)[e.1]?).getD 0)) := by
     by_cases hlt2 : e.1 < s.size
     ·rw [if_pos (decide_eq_true (by omega)), bat_lt hlt2, Option.bind_some, lex_letter_eq, Option.bind_some, List.getElem?_eq_getElem (by omega)]; rfl
     ·rw [if_neg (nd (by omega)), List.getElem?_eq_none (by omega)]; rfl
    refine hc4.trans ?_
    rw [hJ2 _ e.1 D (by omega)]
    by_cases c4 : letB (((sints s)[e.1]?).getD 0) = true
    ·rw [if_pos c4, if_pos (.inr c4)]
    ·rw [if_neg c4, if_neg (by rintro (h | h); exact c3 h; exact c4 h)]
  ·rw [if_neg c2, if_neg c2]
   by_cases c3 : (sints s).headD 0 = 34
   ·rw [if_pos (decide_eq_true c3), if_pos c3, lex_meant_eq hs hNs, Option.bind_some]
    cases hq : qtS ((sints s).drop 1) with
    | none =>
     have h34 : s.extract 0 1 = ⟨#[34]⟩ := by
      have := ext_one (s := s) (i := 0) (by omega)
      rw [this]
      have e0 : (sints s)[0]'(by omega) = 34 := by
       rw [← c3]; exact head_get _ _
      rw [e0]; rfl
     rw [qtP, if_pos (by rfl), chk_pos (by omega), m_fail, Option.bind_some, hB _ _ _ _ _ (by decide), show Int.toNat 0 = 0 from rfl, show Int.toNat 1 = 1 from rfl, h34]
    | some q =>
     have := qtS_rng _ q (fun x hx => sints_rng (List.mem_of_mem_drop hx)) hq
     rw [List.length_drop] at this
     rw [qtP]
     dsimp only
     rw [if_neg (by decide), List.nil_append]
     exact hJ (1 + q.1) _ _ (by omega)
   ·rw [if_neg (nd c3), if_neg c3]
    obtain ⟨r, hr1, hr2⟩ := idxb_sgn ((sints s).headD 0) (head_rng s)
    rw [hr1, Option.bind_some, hr2]
    by_cases c4 : sgnB ((sints s).headD 0) = true
    ·rw [if_pos c4, if_pos c4, chk_pos (by omega)]
     exact hJ 1 _ _ (by omega)
    ·rw [if_neg c4, if_neg c4, chk_pos (by omega), m_fail, Option.bind_some, hB _ _ _ _ _ (by decide)]; rfl
end
abbrev TokV := Int × ByteArray × Int × Int
abbrev FltV := Int × Int × Int × ByteArray
inductive LexR (t : ByteArray) : Nat → Int × Int → List TokV → Option FltV → Prop
 | fin {a p p'} : BlR t a p true t.size p' → LexR t a p [(0, ⟨#[]⟩, p'.1, p'.2)] none
 | opn {a p a' p'} : BlR t a p false a' p' → LexR t a p [] (some (21, p'.1, p'.2, ⟨#[47, 42]⟩))
 | bad {a p a' p'} : BlR t a p true a' p' → a' < t.size → (tokS (t.extract a' t.size)).2.2.1 ≠ 0 → LexR t a p [] (some ((tokS (t.extract a' t.size)).2.2.1, p'.1, p'.2, (tokS (t.extract a' t.size)).2.2.2))
 | tok {a p a' p' l f} : BlR t a p true a' p' → a' < t.size → (tokS (t.extract a' t.size)).2.2.1 = 0 →
   LexR t (a' + (tokS (t.extract a' t.size)).1) (plc (((sints t).drop a').take (tokS (t.extract a' t.size)).1) p') l f →
   LexR t a p (((tokS (t.extract a' t.size)).2.1.1, (tokS (t.extract a' t.size)).2.1.2, p'.1, p'.2) :: l) f
theorem blR_ex (t : ByteArray) : ∀ (m a : Nat) (p : Int × Int), t.size - a ≤ m → a ≤ t.size → ∃ ok a' p', BlR t a p ok a' p'
 | 0, a, p, h1, h2 => ⟨_, _, _, .fin (by omega)⟩
 | m + 1, a, p, h1, h2 => by
  rcases Nat.lt_or_ge a t.size with h | h
  ·cases hk : skS ((sints t).drop a) with
   | none => exact ⟨_, _, _, .opn h hk⟩
   | some k =>
    cases k with
    | zero => exact ⟨_, _, _, .done h hk⟩
    | succ k =>
     have hl := skS_le hk (fun e => by have := congrArg List.length e; rw [List.length_drop, sints_len] at this; simp at this; omega)
     rw [List.length_drop, sints_len] at hl
     obtain ⟨ok, a', p', h3⟩ := blR_ex t m (a + (k + 1)) (plc (((sints t).drop a).take (k + 1)) p) (by omega) (by omega)
     exact ⟨ok, a', p', .skip h hk (by omega) (by omega) h3⟩
  ·exact ⟨_, _, _, .fin (by omega)⟩
theorem lexR_ex (t : ByteArray) : ∀ (m a : Nat) (p : Int × Int), t.size - a ≤ m → a ≤ t.size → ∃ l f, LexR t a p l f := by
  intro m
  induction m with
  | zero =>
    intro a p h1 h2
    exact ⟨_, _, .fin (p' := p) (by have : a = t.size := by omega
                                    subst this; exact .fin rfl)⟩
  | succ m ih =>
    intro a p h1 h2
    obtain ⟨ok, a', p', hb⟩ := blR_ex t (t.size - a) a p (Nat.le_refl _) h2
    have hl := hb.le
    cases ok with
    | false => exact ⟨_, _, .opn hb⟩
    | true =>
      rcases Nat.lt_or_ge a' t.size with h | h
      · by_cases hc : (tokS (t.extract a' t.size)).2.2.1 = 0
        · have hz : (t.extract a' t.size).size = t.size - a' := by rw [ByteArray.size_extract]; omega
          have := tokS_le (s := t.extract a' t.size) (by omega) hc
          obtain ⟨l, f, h3⟩ := ih (a' + (tokS (t.extract a' t.size)).1) (plc (((sints t).drop a').take (tokS (t.extract a' t.size)).1) p') (by omega) (by omega)
          exact ⟨_, _, .tok hb h hc h3⟩
        · exact ⟨_, _, .bad hb h hc⟩
      · have : a' = t.size := by omega
        subst this
        exact ⟨_, _, .fin hb⟩
theorem LexR.facts {t : ByteArray} {a : Nat} {p : Int × Int} {l : List TokV} {f : Option FltV} (h : LexR t a p l f) (ha : a ≤ t.size) :
  l.length ≤ t.size - a + 1 ∧ (f = none → ∃ x, l.getLast? = some x ∧ x.1 = 0) ∧ (∀ e, f = some e → e.1 ≠ 0) := by
 induction h with
 | fin h => exact ⟨by simp, fun _ => ⟨_, rfl, rfl⟩, fun e he => by cases he⟩
 | opn h => exact ⟨by simp, fun e => (by cases e), fun e he => (by cases he; show (21 : Int) ≠ 0; decide)⟩
 | bad h h1 h2 => exact ⟨by simp, fun e => (by cases e), fun e he => (by cases he; exact h2)⟩
 | @tok a p a' p' l f h1 h2 h3 h4 ih =>
  have hz : (t.extract a' t.size).size = t.size - a' := by rw [ByteArray.size_extract]; omega
  have hk := tokS_le (s := t.extract a' t.size) (by omega) h3
  have hle := h1.le
  obtain ⟨i1, i2, i3⟩ := ih (by omega)
  refine ⟨by rw [List.length_cons]; omega, fun e => ?_, i3⟩
  obtain ⟨x, hx, hx2⟩ := i2 e
  refine ⟨x, ?_, hx2⟩
  rw [List.getLast?_cons, hx]; rfl
theorem place_L1 {N : Nat} {t : ByteArray} (ht : t.size ≤ 33554432) {a : Nat} (ha : a ≤ t.size) : ∀ (f i : Nat) (p : Int × Int), Bd p i → a < f + i → i ≤ a →
  m_r06_Place_L1 N t (a : Int) f p.1 p.2 (i : Int) = some (plc (((sints t).drop i).take (a - i)) p)
 | 0, i, p, hb, h1, h2 => by omega
 | f + 1, i, p, hb, h1, h2 => by
  have hl := sints_len t
  rw [m_r06_Place_L1.eq_2]
  by_cases hk : i < a
  ·rw [if_pos (decide_eq_true (by omega)), bat_lt (by omega), Option.bind_some, dropG (by omega), show a - i = (a - (i + 1)) + 1 by omega, List.take_succ_cons, plc_cons]
   have hb1 : Bd (if (sints t)[i]'(by omega) = 10 then (p.1 + 1, 1) else (p.1, p.2 + 1)) (i + 1) := Bd.plc (xs := [(sints t)[i]'(by omega)]) hb
   have ih := place_L1 (N := N) ht ha f (i + 1) _ hb1 (by omega) (by omega)
   rw [← ih]
   obtain ⟨b1, b2, b3, b4⟩ := hb
   by_cases h : (sints t)[i]'(by omega) = 10
   ·rw [if_pos (decide_eq_true h), if_pos h, m_r06_Place_J1, w64 (by omega), w64 (by omega)]; rfl
   ·rw [if_neg (nd h), if_neg h, m_r06_Place_J1, w64 (by omega), w64 (by omega)]; rfl
  ·have : i = a := by omega
   subst this
   rw [if_neg (nd (by omega)), Nat.sub_self, List.take_zero]; rfl
theorem place_eq {N : Nat} {t : ByteArray} (ht : t.size ≤ 33554432) (hN : t.size < N) {a : Nat} (ha : a ≤ t.size) : m_r06_Place N t (a : Int) = some (plc ((sints t).take a) (1, 1)) := by
 have := place_L1 (N := N) ht ha N 0 (1, 1) ⟨by decide, by decide, by decide, by decide⟩ (by omega) (by omega)
 rw [List.drop_zero] at this
 rw [m_r06_Place]
 exact this
theorem plc_take (xs : List Int) (a k : Nat) (p : Int × Int) : plc ((xs.drop a).take k) (plc (xs.take a) p) = plc (xs.take (a + k)) p := by
 rw [← plc_app, List.take_add]
section
variable {N : Nat} {t : ByteArray} (ht : t.size ≤ 33554432) (hN : t.size < N) (hN2 : 15 ≤ N)
include ht hN hN2
theorem all_step {a : Nat} (ha : a < t.size) (f : Nat) (v1 v2 v3 : Int) (v4 : ByteArray) (acc : List TokV) (hacc : acc.length ≤ 33554432) :
  m_r06_All_L1 N t (f + 1) v1 v2 v3 v4 acc (a : Int) = match skS ((sints t).drop a) with
   | none => some (acc, (21, (plc ((sints t).take a) (1, 1)).1, (plc ((sints t).take a) (1, 1)).2, ⟨#[47, 42]⟩))
   | some (k + 1) => m_r06_All_L1 N t f v1 v2 v3 v4 acc ((a + (k + 1) : Nat) : Int)
   | some 0 => if (tokS (t.extract a t.size)).2.2.1 = 0 then m_r06_All_L1 N t f v1 v2 v3 v4 (acc ++ [((tokS (t.extract a t.size)).2.1.1, (tokS (t.extract a t.size)).2.1.2, (plc ((sints t).take a) (1, 1)).1, (plc ((sints t).take a) (1, 1)).2)]) ((a + (tokS (t.extract a t.size)).1 : Nat) : Int)
    else some (acc, ((tokS (t.extract a t.size)).2.2.1, (plc ((sints t).take a) (1, 1)).1, (plc ((sints t).take a) (1, 1)).2, (tokS (t.extract a t.size)).2.2.2)) := by
 have hx := sints_suf t a
 have hz : (t.extract a t.size).size = t.size - a := by rw [ByteArray.size_extract]; omega
 have ht1 : ∀ (n : Nat) (kd : Int) (tx : ByteArray), n ≤ t.size → ∀ acc' , m_r06_All_J1 v1 v2 v3 v4 (a : Int) (m_r06_All_L1 N t f) ((n : Int), (kd, tx, 0, 0), (0, 0, 0, ⟨#[]⟩)) acc' = m_r06_All_L1 N t f v1 v2 v3 v4 acc' ((a + n : Nat) : Int) := by
  intro n kd tx hn acc'
  rw [m_r06_All_J1]
  dsimp only
  rw [w64 (by omega)]; rfl
 rw [m_r06_All_L1.eq_2, if_pos (decide_eq_true (by omega)), chk_pos (by omega), show Int.toNat (a : Int) = a from rfl, show Int.toNat (t.size : Int) = t.size from rfl, place_eq ht hN (by omega), ← hx]
 cases hk : skS (sints (t.extract a t.size)) with
 | none => rw [ref_take_none (N := N) (by omega) (by omega) hN2 (by omega) hk, Option.bind_some, Option.bind_some, if_pos (by rfl)]
 | some k =>
  have hkl := skS_le hk (fun e => by have := congrArg List.length e; rw [sints_len] at this; simp at this; omega)
  rw [sints_len] at hkl
  cases k with
  | succ k =>
   rw [ref_take_skip (N := N) (by omega) (by omega) hN2 (by omega) hk (by omega), Option.bind_some, Option.bind_some, if_neg (by show ¬ (!decide ((0 : Int) = 0)) = true; decide), if_neg (by show ¬ (!decide ((0 : Int) = 0)) = true; decide), ht1 (k + 1) 0 ⟨#[]⟩ (by omega)]
  | zero =>
   have hle := tokS_le (s := t.extract a t.size) (by omega)
   rw [ref_take_tok (N := N) (by omega) (by omega) hN2 (by omega) hk, Option.bind_some, Option.bind_some]
   dsimp only
   generalize tokS (t.extract a t.size) = T at hle
   by_cases hc : T.2.2.1 = 0
   ·obtain ⟨h1, h2, h3⟩ := hle hc
    rw [if_neg (by rw [decide_eq_true hc]; decide), if_pos (by rw [decide_eq_false h3]; rfl), if_pos hc, chk_pos (by
     have : ([((T.2.1.1, T.2.1.2, (plc ((sints t).take a) (1, 1)).1, (plc ((sints t).take a) (1, 1)).2) : TokV)]).length = 1 := rfl
     rw [this]; simp only [maxLen]; omega)]
    rw [m_r06_All_J1]
    dsimp only
    rw [w64 (by omega)]; rfl
   ·rw [if_pos (by rw [decide_eq_false hc]; rfl), if_neg hc]
theorem all_skip {a a' : Nat} {p p' : Int × Int} {ok : Bool} (h : BlR t a p ok a' p') (v1 v2 v3 : Int) (v4 : ByteArray) (acc : List TokV) (hacc : acc.length ≤ 33554432) (hp : p = plc ((sints t).take a) (1, 1)) :
  p' = plc ((sints t).take a') (1, 1) ∧ ∀ f, t.size < f + a → ∃ f', t.size < f' + a' ∧ m_r06_All_L1 N t f v1 v2 v3 v4 acc (a : Int) = m_r06_All_L1 N t f' v1 v2 v3 v4 acc (a' : Int) := by
 induction h with
 | fin h => exact ⟨hp, fun f hf => ⟨f, hf, rfl⟩⟩
 | done h h2 => exact ⟨hp, fun f hf => ⟨f, hf, rfl⟩⟩
 | opn h h2 => exact ⟨hp, fun f hf => ⟨f, hf, rfl⟩⟩
 | @skip a p k ok a' p' h1 h2 h3 h4 h5 ih =>
  obtain ⟨i1, i2⟩ := ih (by rw [hp, plc_take])
  refine ⟨i1, fun f hf => ?_⟩
  obtain ⟨f, rfl⟩ : ∃ g, f = g + 1 := ⟨f - 1, by omega⟩
  obtain ⟨f', h6, h7⟩ := i2 f (by omega)
  refine ⟨f', h6, ?_⟩
  rw [all_step ht hN hN2 h1 f v1 v2 v3 v4 acc hacc, h2]
  obtain ⟨k, rfl⟩ : ∃ g, k = g + 1 := ⟨k - 1, by omega⟩
  exact h7
def flL : Option FltV → List (TokV × Option FltV)
 | none => []
 | some e => [((0, ⟨#[]⟩, 0, 0), some e)]
def fltO (f : Option FltV) : FltV := f.getD (0, 0, 0, ⟨#[]⟩)
theorem bl_false {a a' : Nat} {p p' : Int × Int} {ok : Bool} (h : BlR t a p ok a' p') : (ok = false → a' < t.size ∧ skS ((sints t).drop a') = none) ∧ (ok = true → a' < t.size → skS ((sints t).drop a') = some 0) := by
 induction h with
 | fin h => exact ⟨fun e => (by cases e), fun _ e => by omega⟩
 | done h h2 => exact ⟨fun e => (by cases e), fun _ _ => h2⟩
 | opn h h2 => exact ⟨fun _ => ⟨h, h2⟩, fun e => by cases e⟩
 | skip h1 h2 h3 h4 h5 ih => exact ih
theorem all_L1 {a : Nat} {p : Int × Int} {l : List TokV} {f : Option FltV} (h : LexR t a p l f) (ha : a ≤ t.size) (v1 v2 v3 : Int) (v4 : ByteArray) : ∀ (acc : List TokV), acc.length + l.length ≤ 33554434 → acc.length ≤ a → p = plc ((sints t).take a) (1, 1) →
  ∀ g, t.size < g + a → m_r06_All_L1 N t g v1 v2 v3 v4 acc (a : Int) = some (acc ++ l, fltO f) := by
 induction h with
 | @fin a p p' h =>
  intro acc hl hacc hp g hg
  obtain ⟨h1, h2⟩ := all_skip ht hN hN2 h v1 v2 v3 v4 acc (by omega) hp
  obtain ⟨g', h3, h4⟩ := h2 g hg
  obtain ⟨g', rfl⟩ : ∃ k, g' = k + 1 := ⟨g' - 1, by omega⟩
  rw [h4, m_r06_All_L1.eq_2, if_neg (nd (by omega)), place_eq ht hN (by omega), Option.bind_some, h1]
  rw [chk_pos (by
   have : ([((0, ⟨#[]⟩, (plc ((sints t).take t.size) (1, 1)).1, (plc ((sints t).take t.size) (1, 1)).2) : TokV)]).length = 1 := rfl
   rw [this]; simp only [maxLen]; omega)]
  rfl
 | @opn a p a' p' h =>
  intro acc hl hacc hp g hg
  obtain ⟨h1, h2⟩ := all_skip ht hN hN2 h v1 v2 v3 v4 acc (by omega) hp
  obtain ⟨g', h3, h4⟩ := h2 g hg
  have h5 := (bl_false ht hN hN2 h).1 rfl
  obtain ⟨g', rfl⟩ : ∃ k, g' = k + 1 := ⟨g' - 1, by omega⟩
  rw [h4, all_step ht hN hN2 h5.1 g' v1 v2 v3 v4 acc (by omega), h5.2, h1, List.append_nil]
  rfl
 | @bad a p a' p' h hlt hc =>
  intro acc hl hacc hp g hg
  obtain ⟨h1, h2⟩ := all_skip ht hN hN2 h v1 v2 v3 v4 acc (by omega) hp
  obtain ⟨g', h3, h4⟩ := h2 g hg
  have h5 := (bl_false ht hN hN2 h).2 rfl hlt
  obtain ⟨g', rfl⟩ : ∃ k, g' = k + 1 := ⟨g' - 1, by omega⟩
  rw [h4, all_step ht hN hN2 hlt g' v1 v2 v3 v4 acc (by omega), h5]
  dsimp only
  rw [if_neg hc, h1, List.append_nil]
  rfl
 | @tok a p a' p' l f h hlt hc hr ih =>
  intro acc hl hacc hp g hg
  have hz : (t.extract a' t.size).size = t.size - a' := by rw [ByteArray.size_extract]; omega
  have hk := tokS_le (s := t.extract a' t.size) (by omega) hc
  have hle := h.le
  obtain ⟨h1, h2⟩ := all_skip ht hN hN2 h v1 v2 v3 v4 acc (by omega) hp
  obtain ⟨g', h3, h4⟩ := h2 g hg
  have h5 := (bl_false ht hN hN2 h).2 rfl hlt
  obtain ⟨g', rfl⟩ : ∃ k, g' = k + 1 := ⟨g' - 1, by omega⟩
  rw [List.length_cons] at hl
  rw [h4, all_step ht hN hN2 hlt g' v1 v2 v3 v4 acc (by omega), h5]
  dsimp only
  rw [if_pos hc]
  have := ih (by omega) (acc ++ [((tokS (t.extract a' t.size)).2.1.1, (tokS (t.extract a' t.size)).2.1.2, (plc ((sints t).take a') (1, 1)).1, (plc ((sints t).take a') (1, 1)).2)]) (by rw [List.length_append]; simp only [List.length_cons, List.length_nil]; omega) (by rw [List.length_append]; simp only [List.length_cons, List.length_nil]; omega) (by rw [h1, plc_take]) g' (by omega)
  rw [this, List.append_assoc, h1]; rfl
theorem ref_all_eq {l : List TokV} {f : Option FltV} (h : LexR t 0 (1, 1) l f) : m_r06_All N t = some (l, fltO f) := by
 have := h.facts (by omega)
 rw [m_r06_All]
 exact all_L1 ht hN hN2 h (by omega) 0 0 0 ⟨#[]⟩ [] (by simp; omega) (by simp) rfl N (by omega)
theorem each_L1 {a : Nat} {p : Int × Int} {l : List TokV} {f : Option FltV} (h : LexR t a p l f) (ha : a ≤ t.size) : Bd p a → ∀ g, t.size + 1 < g + a →
  m_lex_Each_1_L1 N g t (a : Int) p.1 p.2 = some (l.map (fun x => (x, none)) ++ flL f) := by
 induction h with
 | @fin a p p' h =>
  intro hb g hg
  obtain ⟨g, rfl⟩ : ∃ k, g = k + 1 := ⟨g - 1, by omega⟩
  rw [m_lex_Each_1_L1.eq_2, next_fin ht hN h hb, Option.bind_some]
  rfl
 | @opn a p a' p' h =>
  intro hb g hg
  obtain ⟨g, rfl⟩ : ∃ k, g = k + 1 := ⟨g - 1, by omega⟩
  rw [m_lex_Each_1_L1.eq_2, next_opn ht hN h hb, Option.bind_some]
  rfl
 | @bad a p a' p' h hlt hc =>
  intro hb g hg
  obtain ⟨g, rfl⟩ : ∃ k, g = k + 1 := ⟨g - 1, by omega⟩
  rw [m_lex_Each_1_L1.eq_2, next_tok ht hN h hb hlt, Option.bind_some, nxR, if_neg hc]
  rfl
 | @tok a p a' p' l f h hlt hc hr ih =>
  intro hb g hg
  obtain ⟨g, rfl⟩ : ∃ k, g = k + 1 := ⟨g - 1, by omega⟩
  have hz : (t.extract a' t.size).size = t.size - a' := by rw [ByteArray.size_extract]; omega
  have hk := tokS_le (s := t.extract a' t.size) (by omega) hc
  have hle := h.le
  have hb2 := (hle.2.2 hb).plc (xs := ((sints t).drop a').take (tokS (t.extract a' t.size)).1)
  rw [List.length_take, List.length_drop, sints_len, Nat.min_eq_left (by omega)] at hb2
  have := ih (by omega) hb2 g (by omega)
  rw [m_lex_Each_1_L1.eq_2, next_tok ht hN h hb hlt, Option.bind_some, nxR, if_pos hc]
  dsimp only
  rw [if_neg (by decide), if_neg (nd hk.2.2), this, Option.bind_some]; rfl
theorem lex_each_eq {l : List TokV} {f : Option FltV} (h : LexR t 0 (1, 1) l f) (hN3 : t.size + 1 < N) : m_lex_Each N t = some (l.map (fun x => (x, none)) ++ flL f) := by
 rw [m_lex_Each, m_lex_Each_1]
 exact each_L1 ht hN hN2 h (by omega) ⟨by decide, by decide, by decide, by decide⟩ N (by omega)
end
def m_l06_told_J1  : Option ((Int × Int × Int × ByteArray) × Bool) :=
  some ((0, 0, 0, ⟨#[]⟩), false)
def m_l06_told_J2 (f_15 : (Int × Int × Int × ByteArray)) (v_52 : Bool) : Option ((Int × Int × Int × ByteArray) × Bool) :=
  if v_52 = true then (some ((0, 0, 0, ⟨#[]⟩), false)) else (some ((f_15.1, f_15.2.1, f_15.2.2.1, f_15.2.2.2), true))
def m_l06_told (p0_err : (Option (Int × Int × Int × ByteArray))) : Option ((Int × Int × Int × ByteArray) × Bool) :=
  if (!p0_err.isSome) = true then (some ((0, 0, 0, ⟨#[]⟩), true)) else (optC (p0_err) (m_l06_told_J1) (fun f_15 => m_l06_told_J2 f_15 (decide (f_15.1 = 0))))
theorem c_l06_told {col : Col} {w0 : World} {ve0 : Value} {p0_err : (Option (Int × Int × Int × ByteArray))} {r : ((Int × Int × Int × ByteArray) × Bool)} (hm : m_l06_told p0_err = some r) (he0 : Rd (Rep.err 57 26 (Rep.pair (Rep.int .i64) (Rep.pair (Rep.int .i64) (Rep.pair (Rep.int .i64) Rep.str)))) col w0 [ve0] p0_err) (hgl : Gl (.iface 146 (.agg #[.pointer (some ⟨4, 30, none⟩)])) col w0) :
    Calls Tryz.prog 13 #[ve0] w0 (fun e w' => ∃ (col' : Col), e = .returned (.tuple #[(.agg #[(.int .i64 r.1.1), (.int .i64 r.1.2.1), (.int .i64 r.1.2.2.1), (.string r.1.2.2.2)]), (.bool r.2)]) ∧ Grow col w0 col' w') := by
 refine calls_ofR (m := 29) Tryz.func13 rfl rfl rfl ?_;rw [m_l06_told.eq_1] at hm;have hst := St.start col w0;refine go ?_;refine l_allocA (col := (col0 col)) #[(.int .i64 0), (.int .i64 0), (.int .i64 0), (.string (⟨#[]⟩))] 1 Tryz.zeroValue26 ?_;intro g_1 w_2 col_3 hg_4 hb_5;refine go ?_;refine lv (v := ve0) rfl rfl (r_move rfl) ?_;replace he0 := (he0.keep (Stay.start col w0)).gr hg_4;refine lV (.bool (!p0_err.isSome)) (r_eqlE he0 Tryz.underlying30 rfl) <| lnil ?_;replace hgl := (hgl.keep (Stay.start col w0)).gr hg_4;replace hst := hst.grow hg_4;refine wcb hm (fun hb hm => go ?_) fun hb hm => go ?_
 ·refine lV (.agg #[(.int .i64 0), (.int .i64 0), (.int .i64 0), (.string (⟨#[]⟩))]) (r_build (l := [_, _, _, _]) (qs := [(0, 1), (1, 1), (2, 1), (3, 1)]) Tryz.underlying26 Tryz.zeroValue26 ⟨rfl, Tryz.sizeOf24, rfl, Tryz.sizeOf3, rfl, Tryz.sizeOf3, rfl, Tryz.sizeOf9, trivial⟩ rfl) <| l_bsA hb_5 ?_;intro w_6 hk_7 hs_8 hb_9;refine go ?_;cases hm;replace hst := hst.kp hk_7 hs_8;exact ⟨rfl, _, rat hb_9.atN, _, rfl, hst.fin (cm [])⟩
 refine l_alloc (col := col_3) (v := (.pointer none)) 2 rfl Tryz.zeroValue57 ?_;intro g_10 w_11 col_12 hg_13 hb_14;replace hb_14 : Box 57 2 col_12 w_11 g_10 #[(.pointer none)] := hb_14;refine go ?_;refine lv (v := ve0) rfl rfl (r_move rfl) ?_;replace he0 := he0.gr hg_13;replace hgl := hgl.gr hg_13;replace hb_5 := hb_5.gr hg_13;replace hst := hst.grow hg_13;refine lV (.iface 59 (.pointer (some ⟨g_10, 0, none⟩))) (r_mkI Tryz.underlying59 rfl) ?_
 cases hx_16 : p0_err with
 | none =>
  rw [hx_16] at hm he0;replace hm := optC_none hm;obtain rfl := he0.eN;refine lc rfl rfl (r_call2 Tryz.call29 rfl rfl) (as_no _ _) ?_;rintro _ w_17 ⟨rfl, hg_18⟩;refine ⟨_, rfl, ?_⟩;replace hg_18 : Grow col_12 w_11 col_12 w_17 := .of_below hg_18;refine lAB rfl <| lnil <| wseq <| wseq ?_;replace hgl := hgl.gr hg_18;replace hb_5 := hb_5.gr hg_18;replace hb_14 := hb_14.gr hg_18;replace hst := hst.grow hg_18;refine Wp.cutK [2, 4, 1000000] (fun f w_19 => ∃ col_20, m_l06_told_J1  = some r ∧ St w0 (col0 col) col_20 w_19 ∧ Box 26 1 col_20 w_19 g_1 #[(.int .i64 0), (.int .i64 0), (.int .i64 0), (.string (⟨#[]⟩))] ∧ Box 57 2 col_20 w_19 g_10 #[(.pointer none)] ∧ Gl (.iface 146 (.agg #[.pointer (some ⟨4, 30, none⟩)])) col_20 w_19 ∧ [24].map f = [.bool true]) ?_ ?_
  ·intro f w_19 hJ;obtain ⟨col_20, hm, hst, hb_5, hb_14, hgl, hs⟩ := hJ;rw [m_l06_told_J1.eq_1] at hm;refine .lL [24] hs <| wcondT rfl <| go ?_;refine lV (.agg #[(.int .i64 0), (.int .i64 0), (.int .i64 0), (.string (⟨#[]⟩))]) (r_build (l := [_, _, _, _]) (qs := [(0, 1), (1, 1), (2, 1), (3, 1)]) Tryz.underlying26 Tryz.zeroValue26 ⟨rfl, Tryz.sizeOf24, rfl, Tryz.sizeOf3, rfl, Tryz.sizeOf3, rfl, Tryz.sizeOf9, trivial⟩ rfl) <| l_bsA hb_5 ?_;intro w_21 hk_22 hs_23 hb_24;refine go ?_;cases hm;replace hst := hst.kp hk_22 hs_23;exact ⟨rfl, _, rat hb_24.atN, _, rfl, hst.fin (cm [])⟩
  refine go ?_;refine lP 14 rfl rfl <| lP 14 rfl rfl <| lV (.bool true) (r_pickT rfl rfl) <| lMB rfl <| lP 18 rfl rfl <| lP 18 rfl rfl <| lP 18 rfl rfl <| lP 18 rfl rfl <| lP 18 rfl rfl <| lV (.bool true) (r_pickT rfl rfl) <| lnil ?_;exact ⟨rfl, _, hm, hst, hb_5, hb_14, hgl, rfl⟩
 | some f_15 =>
  rw [hx_16] at hm he0;replace hm := optC_some hm;refine lc rfl rfl (r_call2 Tryz.call29 rfl rfl) (as_yes hgl he0 hb_14 (k := 0) rfl rfl) ?_;rintro _ w_25 ⟨col_26, b_31, rfl, hk_27, hs_28, hb_29, hP_30⟩;refine ⟨_, rfl, ?_⟩;replace hb_29 : Box 57 2 col_26 w_25 g_10 #[(.pointer (some ⟨b_31, 0, none⟩))] := hb_29;refine lAB rfl <| lnil <| wseq <| wseq ?_;replace hgl := hgl.kp hk_27;replace hb_5 := hb_5.kp hk_27;replace hst := hst.kp hk_27 hs_28;refine Wp.cutK [2, 4, 1000000] (fun f w_50 => ∃ col_51 v_52, m_l06_told_J2 f_15 v_52 = some r ∧ St w0 (col0 col) col_51 w_50 ∧ Box 26 1 col_51 w_50 g_1 #[(.int .i64 0), (.int .i64 0), (.int .i64 0), (.string (⟨#[]⟩))] ∧ Rd (Rep.fptr 26 (Rep.pair (Rep.int .i64) (Rep.pair (Rep.int .i64) (Rep.pair (Rep.int .i64) Rep.str)))) col_51 w_50 [(.pointer (some ⟨b_31, 0, none⟩))] (some f_15) ∧ Box 57 2 col_51 w_50 g_10 #[(.pointer (some ⟨b_31, 0, none⟩))] ∧ Gl (.iface 146 (.agg #[.pointer (some ⟨4, 30, none⟩)])) col_51 w_50 ∧ [24].map f = [.bool v_52]) ?_ ?_
  ·intro f w_50 hJ;obtain ⟨col_51, v_52, hm, hst, hb_5, hP_30, hb_29, hgl, hs⟩ := hJ;rw [m_l06_told_J2.eq_1] at hm;refine .lL [24] hs ?_;refine wcb hm (fun hb hm => go ?_) fun hb hm => go ?_
   ·refine lV (.agg #[(.int .i64 0), (.int .i64 0), (.int .i64 0), (.string (⟨#[]⟩))]) (r_build (l := [_, _, _, _]) (qs := [(0, 1), (1, 1), (2, 1), (3, 1)]) Tryz.underlying26 Tryz.zeroValue26 ⟨rfl, Tryz.sizeOf24, rfl, Tryz.sizeOf3, rfl, Tryz.sizeOf3, rfl, Tryz.sizeOf9, trivial⟩ rfl) <| l_bsA hb_5 ?_;intro w_53 hk_54 hs_55 hb_56;refine go ?_;cases hm;replace hst := hst.kp hk_54 hs_55;exact ⟨rfl, _, rat hb_56.atN, _, rfl, hst.fin (cm [])⟩
   refine lW hb_29.at1 ?_;obtain ⟨_, _, hq9, hF_58, hr_59⟩ := hP_30.pS;cases hq9;obtain ⟨_, _, rfl, hp_60, hp_61⟩ := rd_pair hr_59;obtain ⟨rfl, _⟩ := hp_60;obtain ⟨_, _, rfl, hp_62, hp_63⟩ := rd_pair hp_61;obtain ⟨rfl, _⟩ := hp_62;obtain ⟨_, _, rfl, hp_64, hp_65⟩ := rd_pair hp_63;obtain ⟨rfl, _⟩ := hp_64;obtain ⟨rfl, _⟩ := hp_65;replace hF_58 : FzB 26 col_51 w_50 b_31 [(.int .i64 f_15.1), (.int .i64 f_15.2.1), (.int .i64 f_15.2.2.1), (.string f_15.2.2.2)] := hF_58;refine lV (.pointer (some ⟨b_31, 0, none⟩)) (r_nilCheck rfl) <| lV _ (r_ldB Tryz.isAgg26 Tryz.sizeOf26 hF_58) <| l_bsA hb_5 ?_;intro w_66 hk_67 hs_68 hb_69;refine go ?_;cases hm;replace hst := hst.kp hk_67 hs_68;exact ⟨rfl, _, rat hb_69.atN, _, rfl, hst.fin (cm [])⟩
  refine go ?_;refine lG 14 rfl rfl <| lW hb_29.at1 <| lG 14 rfl rfl <| lV (.bool false) (r_eqlP hP_30 Tryz.underlying57 rfl) <| lV (.bool false) (r_pickF rfl rfl) <| lMB rfl <| lG 18 rfl rfl <| lW hb_29.at1 <| lG 18 rfl rfl ?_;obtain ⟨_, _, hq9, hF_71, hr_72⟩ := hP_30.pS;cases hq9;obtain ⟨_, _, rfl, hp_73, hp_74⟩ := rd_pair hr_72;obtain ⟨rfl, _⟩ := hp_73;obtain ⟨_, _, rfl, hp_75, hp_76⟩ := rd_pair hp_74;obtain ⟨rfl, _⟩ := hp_75;obtain ⟨_, _, rfl, hp_77, hp_78⟩ := rd_pair hp_76;obtain ⟨rfl, _⟩ := hp_77;obtain ⟨rfl, _⟩ := hp_78;replace hF_71 : FzB 26 col_26 w_25 b_31 [(.int .i64 f_15.1), (.int .i64 f_15.2.1), (.int .i64 f_15.2.2.1), (.string f_15.2.2.2)] := hF_71;refine lV (.pointer (some ⟨b_31, 0, none⟩)) (r_nilCheck rfl) <| lG 18 rfl rfl <| lFa ⟨_, _, rfl⟩ ?_;refine lG 18 rfl rfl <| lW (hF_71.atN.nth (q := 0) rfl) <| lG 18 rfl rfl <| go ?_;refine lV (.bool (decide (f_15.1 = 0))) (r_pickF rfl rfl) <| lnil ?_;exact ⟨rfl, _, _, hm, hst, hb_5, hP_30, hb_29, hgl, rfl⟩
def m_lex_Name_J1 (v_29 : Bool) : Option Bool :=
  some v_29
def m_lex_Name (N : Nat) (p0_s : ByteArray) : Option Bool :=
  if (!decide (p0_s = (⟨#[]⟩))) = true then (if (decide ((p0_s.size : Int) ≤ 64)) = true then ((bat? p0_s 0).bind fun e_32 => (m_lex_letter e_32).bind fun r_34 => if r_34 = true then ((m_lex_run_v2f36 N p0_s 0).bind fun r_39 => m_lex_Name_J1 (decide (r_39 = (p0_s.size : Int)))) else (m_lex_Name_J1 false)) else (m_lex_Name_J1 false)) else (m_lex_Name_J1 false)
theorem c_lex_Name {N : Nat} {col : Col} {w0 : World} {p0_s : ByteArray} {r : Bool} (hm : m_lex_Name N p0_s = some r)  :
    Calls Tryz.prog 18 #[(.string p0_s)] w0 (fun e w' => e = .returned ((.bool r)) ∧ Below w0.heap.size w0 w') := by
 refine calls_of1 2 (m := 22) Tryz.func18 rfl rfl rfl rfl rfl ?_;rw [m_lex_Name.eq_1] at hm;have hst := St.start col w0;refine wseq <| wregion <| lAB rfl <| lnil <| wseq ?_;refine Wp.cutK [1000000] (fun f w_27 => ∃ col_28 v_29, m_lex_Name_J1 v_29 = some r ∧ St w0 (col0 col) col_28 w_27 ∧ [2].map f = [.bool v_29]) ?_ ?_
 ·intro f w_27 hJ;obtain ⟨col_28, v_29, hm, hst, hs⟩ := hJ;rw [m_lex_Name_J1.eq_1] at hm;refine .lL [2] hs <| wret ?_;cases hm;exact ⟨rfl, rfl, hst.below⟩
 refine go ?_;refine bcb hm (fun hg_30 hm => go ?_) fun hg_30 hm => go ?_
 ·refine lV (.bool (decide ((p0_s.size : Int) ≤ 64))) (r_pickT (congrArg Value.bool hg_30) rfl) <| lMB rfl ?_;refine bcb hm (fun hg_31 hm => go ?_) fun hg_31 hm => go ?_
  ·obtain ⟨e_32, hj_33, hm⟩ := bZ hm;refine lV (.int .u8 e_32) (r_indexS (s := p0_s) Tryz.underlying9 rfl rfl hj_33) <| go ?_;obtain ⟨r_34, hr_35, hm⟩ := bZ hm;refine lcA (c_lex_letter (col := (col0 col)) hr_35) ?_;rintro _ w_36 ⟨rfl, hg_37⟩;refine ⟨_, rfl, ?_⟩;replace hg_37 : Grow (col0 col) w0 (col0 col) w_36 := .of_below hg_37;refine lV (.bool r_34) (r_pickT (congrArg Value.bool hg_31) rfl) <| lMB rfl ?_;replace hst := hst.grow hg_37;refine bcb hm (fun hg_38 hm => go ?_) fun hg_38 hm => go ?_
   ·obtain ⟨r_39, hr_40, hm⟩ := bZ hm;refine lcA (c_lex_run_v2f36 (col := (col0 col)) hr_40) ?_;rintro _ w_41 ⟨rfl, hg_42⟩;refine ⟨_, rfl, ?_⟩;replace hg_42 : Grow (col0 col) w_36 (col0 col) w_41 := .of_below hg_42;refine go ?_;refine lV (.bool (decide (r_39 = (p0_s.size : Int)))) (r_pickT (congrArg Value.bool hg_38) rfl) <| go ?_;replace hst := hst.grow hg_42;exact ⟨rfl, _, _, hm, hst, rfl⟩
   refine lV (.bool false) (r_pickF (congrArg Value.bool hg_38) rfl) <| go ?_;exact ⟨rfl, _, _, hm, hst, rfl⟩
  refine lV (.bool false) (r_pickF (congrArg Value.bool hg_31) rfl) <| lMB rfl <| lP 15 rfl rfl <| lP 15 rfl rfl <| lP 15 rfl rfl <| lP 15 rfl rfl <| lP 15 rfl rfl <| lV (.bool false) (r_pickF rfl rfl) <| go ?_;exact ⟨rfl, _, _, hm, hst, rfl⟩
 refine lV (.bool false) (r_pickF (congrArg Value.bool hg_30) rfl) <| lMB rfl <| lP 10 rfl rfl <| lP 10 rfl rfl <| lP 10 rfl rfl <| lV (.bool false) (r_pickF rfl rfl) <| lMB rfl <| lP 15 rfl rfl <| lP 15 rfl rfl <| lP 15 rfl rfl <| lP 15 rfl rfl <| lP 15 rfl rfl <| lV (.bool false) (r_pickF rfl rfl) <| go ?_;exact ⟨rfl, _, _, hm, hst, rfl⟩
theorem c_lex_Quote (col : Col) (w0 : World) (p0_s : ByteArray) (r : ByteArray) (hm : m_quote p0_s = some r) :
    Calls Tryz.prog 20 #[(.string p0_s)] w0 (fun e w' => e = .returned ((.string r)) ∧ Below w0.heap.size w0 w') :=
  quote_c  col w0 p0_s r hm
def m_l06_awake_J2 (v_118 : Bool) : Option Bool :=
  some v_118
def m_l06_awake_J1 (N : Nat) (r_1 : ((List (Int × ByteArray × Int × Int)) × (Option (Int × Int × Int × ByteArray)))) (r_21 : ((Int × Int × Int × ByteArray) × Bool)) (v_41 : Bool) : Option Bool :=
  if v_41 = true then (some false) else ((at? r_1.1 1).bind fun e_119 => if (decide (e_119.1 = 3) && decide (e_119.2.1 = (⟨#[120, 34, 121]⟩)) && decide (e_119.2.2.1 = 2) && decide (e_119.2.2.2 = 1)) = true then ((at? r_1.1 3).bind fun e_130 => if (decide (e_130.1 = 0) && decide (e_130.2.1 = (⟨#[]⟩)) && decide (e_130.2.2.1 = 2) && decide (e_130.2.2.2 = 14)) = true then (if (decide (r_21.1.1 = 22) && decide (r_21.1.2.1 = 1) && decide (r_21.1.2.2.1 = 8) && decide (r_21.1.2.2.2 = (⟨#[50, 101]⟩))) = true then ((m_lex_Name N (⟨#[97, 49]⟩)).bind fun r_142 => if r_142 = true then ((m_lex_Name N (⟨#[49, 97]⟩)).bind fun r_147 => if (!r_147) = true then ((m_quote (⟨#[97]⟩)).bind fun r_152 => m_l06_awake_J2 (decide (r_152 = (⟨#[34, 97, 34]⟩)))) else (m_l06_awake_J2 false)) else (m_l06_awake_J2 false)) else (m_l06_awake_J2 false)) else (m_l06_awake_J2 false)) else (m_l06_awake_J2 false))
def m_l06_awake (N : Nat)  : Option Bool :=
  (m_lex_Scan N (⟨#[97, 10, 34, 120, 92, 34, 121, 34, 59, 32, 47, 47, 32, 115, 111]⟩)).bind fun r_1 => (m_lex_Scan N (⟨#[49, 46, 53, 101, 45, 51, 44, 50, 101]⟩)).bind fun r_11 => (m_l06_told r_11.2).bind fun r_21 => if r_1.2.isSome = true then (m_l06_awake_J1 N r_1 r_21 true) else (if (!r_21.2) = true then (m_l06_awake_J1 N r_1 r_21 true) else (m_l06_awake_J1 N r_1 r_21 (!decide ((r_1.1.length : Int) = 4))))
theorem c_l06_awake {N : Nat} {col : Col} {w0 : World} {r : Bool} (hm : m_l06_awake N = some r) (hgl : Gl (.iface 146 (.agg #[.pointer (some ⟨4, 30, none⟩)])) col w0) :
    Calls Tryz.prog 10 #[] w0 (fun e w' => e = .returned ((.bool r)) ∧ Below w0.heap.size w0 w') := by
 refine calls_of1 0 (m := 59) Tryz.func10 rfl rfl rfl rfl rfl ?_;rw [m_l06_awake.eq_1] at hm;have hst := St.start col w0;refine go ?_;obtain ⟨r_1, hr_2, hm⟩ := bZ hm;replace hgl := hgl.keep (Stay.start col w0);refine lcA (c_lex_Scan 1 hr_2 hgl) ?_;rintro _ w_8 ⟨col_10, ra_3, rc_4, rv_6, rfl, hg_9, rh_5, rh_7⟩;refine ⟨_, rfl, ?_⟩;refine lM (.tuple #[(.slice ra_3 r_1.1.length rc_4), rv_6]) <| lV (.slice ra_3 r_1.1.length rc_4) (r_extract rfl rfl) <| lv (v := rv_6) rfl rfl (r_extract rfl rfl) <| lAS rfl <| lv (v := rv_6) rfl rfl (r_assign rfl) <| go ?_;obtain ⟨r_11, hr_12, hm⟩ := bZ hm;replace hgl := hgl.gr hg_9;refine lcA (c_lex_Scan 2 hr_12 hgl) ?_;rintro _ w_18 ⟨col_20, ra_13, rc_14, rv_16, rfl, hg_19, rh_15, rh_17⟩;refine ⟨_, rfl, ?_⟩;refine lM (.tuple #[(.slice ra_13 r_11.1.length rc_14), rv_16]) <| lV (.slice ra_13 r_11.1.length rc_14) (r_extract rfl rfl) <| lv (v := rv_16) rfl rfl (r_extract rfl rfl) <| lAS rfl <| lv (v := rv_16) rfl rfl (r_assign rfl) <| go ?_;refine lv (v := rv_16) rfl rfl (r_move rfl) ?_;obtain ⟨r_21, hr_22, hm⟩ := bZ hm;replace hgl := hgl.gr hg_19;refine lcA (c_l06_told hr_22 rh_17 hgl) ?_;rintro _ w_23 ⟨col_25, rfl, hg_24⟩;refine ⟨_, rfl, ?_⟩;refine lM (.tuple #[(.agg #[(.int .i64 r_21.1.1), (.int .i64 r_21.1.2.1), (.int .i64 r_21.1.2.2.1), (.string r_21.1.2.2.2)]), (.bool r_21.2)]) <| lV (.agg #[(.int .i64 r_21.1.1), (.int .i64 r_21.1.2.1), (.int .i64 r_21.1.2.2.1), (.string r_21.1.2.2.2)]) (r_extract rfl rfl) <| lV (.bool r_21.2) (r_extract rfl rfl) <| l_allocA (col := col_25) #[(.int .i64 0), (.int .i64 0), (.int .i64 0), (.string (⟨#[]⟩))] 3 Tryz.zeroValue26 ?_;intro g_26 w_27 col_28 hg_29 hb_30;refine l_bsA hb_30 ?_;intro w_31 hk_32 hs_33 hb_34;refine lAB rfl <| lnil <| wseq <| wseq ?_;replace hst := ((((hst.grow hg_9).grow hg_19).grow hg_24).grow hg_29).kp hk_32 hs_33;replace rh_5 := (((rh_5.gr hg_19).gr hg_24).gr hg_29).kp hk_32;replace rh_7 := (((rh_7.gr hg_19).gr hg_24).gr hg_29).kp hk_32;replace hgl := ((hgl.gr hg_24).gr hg_29).kp hk_32;refine Wp.cutK [1, 5, 1000000] (fun f w_39 => ∃ col_40 v_41, m_l06_awake_J1 N r_1 r_21 v_41 = some r ∧ St w0 (col0 col) col_40 w_39 ∧ Own (Rep.pair (Rep.int .i8) (Rep.pair Rep.str (Rep.pair (Rep.int .i64) (Rep.int .i64)))) 38 1 col_40 w_39 ra_3 rc_4 r_1.1 ∧ Box 26 3 col_40 w_39 g_26 #[(.int .i64 r_21.1.1), (.int .i64 r_21.1.2.1), (.int .i64 r_21.1.2.2.1), (.string r_21.1.2.2.2)] ∧ Gl (.iface 146 (.agg #[.pointer (some ⟨4, 30, none⟩)])) col_40 w_39 ∧ [30].map f = [.bool v_41]) ?_ ?_
 ·intro f w_39 hJ;obtain ⟨col_40, v_41, hm, hst, rh_5, hb_34, hgl, hs⟩ := hJ;rw [m_l06_awake_J1.eq_1] at hm;refine .lL [30] hs ?_;refine wcb hm (fun hb hm => go ?_) fun hb hm => ?_
  ·cases hm;exact ⟨rfl, rfl, hst.below⟩
  refine wskip <| wseq ?_;refine Wp.cutK [1000000] (fun f w_116 => ∃ col_117 v_118, m_l06_awake_J2 v_118 = some r ∧ St w0 (col0 col) col_117 w_116 ∧ Gl (.iface 146 (.agg #[.pointer (some ⟨4, 30, none⟩)])) col_117 w_116 ∧ [0].map f = [.bool v_118]) ?_ ?_
  ·intro f w_116 hJ;obtain ⟨col_117, v_118, hm, hst, hgl, hs⟩ := hJ;rw [m_l06_awake_J2.eq_1] at hm;refine .lL [0] hs <| wret ?_;cases hm;exact ⟨rfl, rfl, hst.below⟩
  refine go ?_;obtain ⟨e_119, hj_120, hm⟩ := bZ hm;refine lI hj_120 (rh_5.addr hj_120) ?_;obtain ⟨_, hr_121, hA_122⟩ := rh_5.atN hj_120;obtain ⟨_, _, rfl, hp_123, hp_124⟩ := hr_121.parts;obtain rfl := hp_123.int;obtain ⟨_, _, rfl, hp_125, hp_126⟩ := hp_124.parts;obtain rfl := hp_125.str;obtain ⟨_, _, rfl, hp_127, hp_128⟩ := hp_126.parts;obtain rfl := hp_127.int;obtain rfl := hp_128.int;refine lV (.agg #[(.int .i8 e_119.1), (.string e_119.2.1), (.int .i64 e_119.2.2.1), (.int .i64 e_119.2.2.2)]) (r_ldN Tryz.isAgg38 Tryz.sizeOf38 rfl rfl hA_122) <| lV (.agg #[(.int .i8 3), (.string (⟨#[120, 34, 121]⟩)), (.int .i64 2), (.int .i64 1)]) (r_build (l := [_, _, _, _]) (qs := [(0, 1), (1, 1), (2, 1), (3, 1)]) Tryz.underlying38 Tryz.zeroValue38 ⟨rfl, Tryz.sizeOf36, rfl, Tryz.sizeOf9, rfl, Tryz.sizeOf3, rfl, Tryz.sizeOf3, trivial⟩ rfl) <| lV (.bool (decide (e_119.1 = 3) && decide (e_119.2.1 = (⟨#[120, 34, 121]⟩)) && decide (e_119.2.2.1 = 2) && decide (e_119.2.2.2 = 1))) (r_eqlA rfl rfl (by decide +kernel) (eq_struct4 Tryz.underlying38 (by decide +kernel) (by decide) (by decide) (by decide) (by decide) (r_part Tryz.isAgg36 rfl) (r_part Tryz.isAgg36 rfl) (r_part Tryz.isAgg9 rfl) (r_part Tryz.isAgg9 rfl) (r_part Tryz.isAgg3 rfl) (r_part Tryz.isAgg3 rfl) (r_part Tryz.isAgg3 rfl) (r_part Tryz.isAgg3 rfl) (peq_int e_119.1 3 Tryz.underlying36) (peq_str e_119.2.1 (⟨#[120, 34, 121]⟩) Tryz.underlying9) (peq_int e_119.2.2.1 2 Tryz.underlying3) (peq_int e_119.2.2.2 1 Tryz.underlying3))) <| lMB rfl ?_;refine bcb hm (fun hg_129 hm => go ?_) fun hg_129 hm => go ?_
  ·obtain ⟨e_130, hj_131, hm⟩ := bZ hm;refine lI hj_131 (rh_5.addr hj_131) ?_;refine go ?_;obtain ⟨_, hr_132, hA_133⟩ := rh_5.atN hj_131;obtain ⟨_, _, rfl, hp_134, hp_135⟩ := hr_132.parts;obtain rfl := hp_134.int;obtain ⟨_, _, rfl, hp_136, hp_137⟩ := hp_135.parts;obtain rfl := hp_136.str;obtain ⟨_, _, rfl, hp_138, hp_139⟩ := hp_137.parts;obtain rfl := hp_138.int;obtain rfl := hp_139.int;refine lV (.agg #[(.int .i8 e_130.1), (.string e_130.2.1), (.int .i64 e_130.2.2.1), (.int .i64 e_130.2.2.2)]) (r_ldN Tryz.isAgg38 Tryz.sizeOf38 rfl rfl hA_133) <| go ?_;refine lV (.agg #[(.int .i8 0), (.string (⟨#[]⟩)), (.int .i64 2), (.int .i64 14)]) (r_build (l := [_, _, _, _]) (qs := [(0, 1), (1, 1), (2, 1), (3, 1)]) Tryz.underlying38 Tryz.zeroValue38 ⟨rfl, Tryz.sizeOf36, rfl, Tryz.sizeOf9, rfl, Tryz.sizeOf3, rfl, Tryz.sizeOf3, trivial⟩ rfl) <| go ?_;refine lV (.bool (decide (e_130.1 = 0) && decide (e_130.2.1 = (⟨#[]⟩)) && decide (e_130.2.2.1 = 2) && decide (e_130.2.2.2 = 14))) (r_eqlA rfl rfl (by decide +kernel) (eq_struct4 Tryz.underlying38 (by decide +kernel) (by decide) (by decide) (by decide) (by decide) (r_part Tryz.isAgg36 rfl) (r_part Tryz.isAgg36 rfl) (r_part Tryz.isAgg9 rfl) (r_part Tryz.isAgg9 rfl) (r_part Tryz.isAgg3 rfl) (r_part Tryz.isAgg3 rfl) (r_part Tryz.isAgg3 rfl) (r_part Tryz.isAgg3 rfl) (peq_int e_130.1 0 Tryz.underlying36) (peq_str e_130.2.1 (⟨#[]⟩) Tryz.underlying9) (peq_int e_130.2.2.1 2 Tryz.underlying3) (peq_int e_130.2.2.2 14 Tryz.underlying3))) <| lV (.bool (decide (e_130.1 = 0) && decide (e_130.2.1 = (⟨#[]⟩)) && decide (e_130.2.2.1 = 2) && decide (e_130.2.2.2 = 14))) (r_pickT (congrArg Value.bool hg_129) rfl) <| lMB rfl ?_;refine bcb hm (fun hg_140 hm => go ?_) fun hg_140 hm => go ?_
   ·refine lV _ (r_ldB Tryz.isAgg26 Tryz.sizeOf26 hb_34) <| go ?_;refine lV (.agg #[(.int .i64 22), (.int .i64 1), (.int .i64 8), (.string (⟨#[50, 101]⟩))]) (r_build (l := [_, _, _, _]) (qs := [(0, 1), (1, 1), (2, 1), (3, 1)]) Tryz.underlying26 Tryz.zeroValue26 ⟨rfl, Tryz.sizeOf24, rfl, Tryz.sizeOf3, rfl, Tryz.sizeOf3, rfl, Tryz.sizeOf9, trivial⟩ rfl) <| go ?_;refine lV (.bool (decide (r_21.1.1 = 22) && decide (r_21.1.2.1 = 1) && decide (r_21.1.2.2.1 = 8) && decide (r_21.1.2.2.2 = (⟨#[50, 101]⟩)))) (r_eqlA rfl rfl (by decide +kernel) (eq_struct4 Tryz.underlying26 (by decide +kernel) (by decide) (by decide) (by decide) (by decide) (r_part Tryz.isAgg24 rfl) (r_part Tryz.isAgg24 rfl) (r_part Tryz.isAgg3 rfl) (r_part Tryz.isAgg3 rfl) (r_part Tryz.isAgg3 rfl) (r_part Tryz.isAgg3 rfl) (r_part Tryz.isAgg9 rfl) (r_part Tryz.isAgg9 rfl) (peq_int r_21.1.1 22 Tryz.underlying24) (peq_int r_21.1.2.1 1 Tryz.underlying3) (peq_int r_21.1.2.2.1 8 Tryz.underlying3) (peq_str r_21.1.2.2.2 (⟨#[50, 101]⟩) Tryz.underlying9))) <| lV (.bool (decide (r_21.1.1 = 22) && decide (r_21.1.2.1 = 1) && decide (r_21.1.2.2.1 = 8) && decide (r_21.1.2.2.2 = (⟨#[50, 101]⟩)))) (r_pickT (congrArg Value.bool hg_140) rfl) <| lMB rfl ?_;refine bcb hm (fun hg_141 hm => go ?_) fun hg_141 hm => go ?_
    ·obtain ⟨r_142, hr_143, hm⟩ := bZ hm;refine lcA (c_lex_Name (col := col_40) hr_143) ?_;rintro _ w_144 ⟨rfl, hg_145⟩;refine ⟨_, rfl, ?_⟩;replace hg_145 : Grow col_40 w_39 col_40 w_144 := .of_below hg_145;refine lV (.bool r_142) (r_pickT (congrArg Value.bool hg_141) rfl) <| lMB rfl ?_;replace hgl := hgl.gr hg_145;replace hst := hst.grow hg_145;refine bcb hm (fun hg_146 hm => go ?_) fun hg_146 hm => go ?_
     ·obtain ⟨r_147, hr_148, hm⟩ := bZ hm;refine lcA (c_lex_Name (col := col_40) hr_148) ?_;rintro _ w_149 ⟨rfl, hg_150⟩;refine ⟨_, rfl, ?_⟩;replace hg_150 : Grow col_40 w_144 col_40 w_149 := .of_below hg_150;refine go ?_;refine lV (.bool (!r_147)) (r_pickT (congrArg Value.bool hg_146) rfl) <| lMB rfl ?_;replace hgl := hgl.gr hg_150;replace hst := hst.grow hg_150;refine bcb hm (fun hg_151 hm => go ?_) fun hg_151 hm => go ?_
      ·obtain ⟨r_152, hr_153, hm⟩ := bZ hm;refine lcA (c_lex_Quote col_40 _ (⟨#[97]⟩) r_152 hr_153) ?_;rintro _ w_154 ⟨rfl, hg_155⟩;refine ⟨_, rfl, ?_⟩;replace hg_155 : Grow col_40 w_149 col_40 w_154 := .of_below hg_155;refine go ?_;refine lV (.bool (decide (r_152 = (⟨#[34, 97, 34]⟩)))) (r_pickT (congrArg Value.bool hg_151) rfl) <| go ?_;replace hgl := hgl.gr hg_155;replace hst := hst.grow hg_155;exact ⟨rfl, _, _, hm, hst, hgl, rfl⟩
      refine lV (.bool false) (r_pickF (congrArg Value.bool hg_151) rfl) <| go ?_;exact ⟨rfl, _, _, hm, hst, hgl, rfl⟩
     refine lV (.bool false) (r_pickF (congrArg Value.bool hg_146) rfl) <| lMB rfl <| lP 55 rfl rfl <| lP 55 rfl rfl <| lV (.bool false) (r_pickF rfl rfl) <| go ?_;exact ⟨rfl, _, _, hm, hst, hgl, rfl⟩
    refine lV (.bool false) (r_pickF (congrArg Value.bool hg_141) rfl) <| lMB rfl <| lP 51 rfl rfl <| lP 51 rfl rfl <| lV (.bool false) (r_pickF rfl rfl) <| lMB rfl <| lP 55 rfl rfl <| lP 55 rfl rfl <| lV (.bool false) (r_pickF rfl rfl) <| go ?_;exact ⟨rfl, _, _, hm, hst, hgl, rfl⟩
   refine lV (.bool false) (r_pickF (congrArg Value.bool hg_140) rfl) <| lMB rfl <| lP 48 rfl rfl <| lV (.bool false) (r_pickF rfl rfl) <| lMB rfl <| lP 51 rfl rfl <| lP 51 rfl rfl <| lV (.bool false) (r_pickF rfl rfl) <| lMB rfl <| lP 55 rfl rfl <| lP 55 rfl rfl <| lV (.bool false) (r_pickF rfl rfl) <| go ?_;exact ⟨rfl, _, _, hm, hst, hgl, rfl⟩
  refine lV (.bool false) (r_pickF (congrArg Value.bool hg_129) rfl) <| lMB rfl <| lP 43 rfl rfl <| lP 43 rfl rfl <| lP 43 rfl rfl <| lV (.bool false) (r_pickF rfl rfl) <| lMB rfl <| lP 48 rfl rfl <| lV (.bool false) (r_pickF rfl rfl) <| lMB rfl <| lP 51 rfl rfl <| lP 51 rfl rfl <| lV (.bool false) (r_pickF rfl rfl) <| lMB rfl <| lP 55 rfl rfl <| lP 55 rfl rfl <| lV (.bool false) (r_pickF rfl rfl) <| go ?_;exact ⟨rfl, _, _, hm, hst, hgl, rfl⟩
 refine wregion <| lv (v := rv_6) rfl rfl (r_move rfl) <| lV (.bool r_1.2.isSome) (r_neqE rh_7 Tryz.underlying30 rfl) <| lMB rfl ?_;refine bcb hm (fun hg_156 hm => go ?_) fun hg_156 hm => go ?_
 ·refine lV (.bool true) (r_pickT (congrArg Value.bool hg_156) rfl) <| lMB rfl <| lP 26 rfl rfl <| lP 26 rfl rfl <| lP 26 rfl rfl <| lV (.bool true) (r_pickT rfl rfl) <| lnil ?_;exact ⟨rfl, _, _, hm, hst, rh_5, hb_34, hgl, rfl⟩
 refine lV (.bool (!r_21.2)) (r_pickF (congrArg Value.bool hg_156) rfl) <| lMB rfl ?_;refine bcb hm (fun hg_157 hm => go ?_) fun hg_157 hm => go ?_
 ·refine lV (.bool true) (r_pickT (congrArg Value.bool hg_157) rfl) <| lnil ?_;exact ⟨rfl, _, _, hm, hst, rh_5, hb_34, hgl, rfl⟩
 refine lV (.bool (!decide ((r_1.1.length : Int) = 4))) (r_pickF (congrArg Value.bool hg_157) rfl) <| lnil ?_;exact ⟨rfl, _, _, hm, hst, rh_5, hb_34, hgl, rfl⟩
def m_r06_Scan (N : Nat) (p0_text : ByteArray) : Option ((List (Int × ByteArray × Int × Int)) × (Int × Int × Int × ByteArray)) :=
  (m_r06_All N p0_text).bind fun r_6 => if (!decide (r_6.2.1 = 0)) = true then (some (([] : List (Int × ByteArray × Int × Int)), (r_6.2.1, r_6.2.2.1, r_6.2.2.2.1, r_6.2.2.2.2))) else (some (r_6.1, (r_6.2.1, r_6.2.2.1, r_6.2.2.2.1, r_6.2.2.2.2)))
theorem c_r06_Scan {N : Nat} {col : Col} {w0 : World} {p0_text : ByteArray} {r : ((List (Int × ByteArray × Int × Int)) × (Int × Int × Int × ByteArray))} (c1 : Nat) (hm : m_r06_Scan N p0_text = some r)  :
    Calls Tryz.prog 11 #[(.string p0_text)] w0 (fun e w' => ∃ (col' : Col) (ra1 : Option Addr) (rc2 : Nat), e = .returned (.tuple #[(.slice ra1 r.1.length rc2), (.agg #[(.int .i64 r.2.1), (.int .i64 r.2.2.1), (.int .i64 r.2.2.2.1), (.string r.2.2.2.2)])]) ∧ Grow col w0 col' w' ∧ Own (Rep.pair (Rep.int .i8) (Rep.pair Rep.str (Rep.pair (Rep.int .i64) (Rep.int .i64)))) 38 c1 col' w' ra1 rc2 r.1) := by
 refine calls_ofR (m := 17) Tryz.func11 rfl rfl rfl ?_;rw [m_r06_Scan.eq_1] at hm;have hst := St.start col w0;refine go ?_;refine l_allocA (col := (col0 col)) #[(.int .i64 0), (.int .i64 0), (.int .i64 0), (.string (⟨#[]⟩))] 1 Tryz.zeroValue26 ?_;intro g_1 w_2 col_3 hg_4 hb_5;refine go ?_;obtain ⟨r_6, hr_7, hm⟩ := bZ hm;refine lcA (c_r06_All (col := col_3) 2 hr_7) ?_;rintro _ w_11 ⟨col_13, ra_8, rc_9, rfl, hg_12, rh_10⟩;refine ⟨_, rfl, ?_⟩;refine lM (.tuple #[(.slice ra_8 r_6.1.length rc_9), (.agg #[(.int .i64 r_6.2.1), (.int .i64 r_6.2.2.1), (.int .i64 r_6.2.2.2.1), (.string r_6.2.2.2.2)])]) <| lV (.slice ra_8 r_6.1.length rc_9) (r_extract rfl rfl) <| lV (.agg #[(.int .i64 r_6.2.1), (.int .i64 r_6.2.2.1), (.int .i64 r_6.2.2.2.1), (.string r_6.2.2.2.2)]) (r_extract rfl rfl) <| l_allocA (col := col_13) #[(.int .i64 0), (.int .i64 0), (.int .i64 0), (.string (⟨#[]⟩))] 3 Tryz.zeroValue26 ?_;intro g_14 w_15 col_16 hg_17 hb_18;refine lAS rfl <| l_bsA hb_18 ?_;intro w_19 hk_20 hs_21 hb_22;refine go ?_;refine lFLb hb_22 ?_;refine go ?_;replace hst := (((hst.grow hg_4).grow hg_12).grow hg_17).kp hk_20 hs_21;replace hb_5 := ((hb_5.gr hg_12).gr hg_17).kp hk_20;replace rh_10 := (rh_10.gr hg_17).kp hk_20;refine wcb hm (fun hb hm => ?_) fun hb hm => go ?_
 ·refine wseq <| wmix (col := col_16) [(0, 0), (1, 1), (2, 2)] (by kernel_rfl) (by kernel_rfl) <| xv rfl rfl (fun _ hC => r_ldB Tryz.isAgg26 Tryz.sizeOf26 (hb_22.gr (hC.bl col_16))) ?_;refine xu rfl rfl (fun _ => r_aS rfl) ?_;refine xe rfl rfl ?_;intro w_23 hC0;have hC := hC0.bl col_16;replace hb_5 := hb_5.gr hC;refine l_bsA hb_5 ?_;intro w_24 hk_25 hs_26 hb_27;refine lnil <| xk col_16 <| xnil ?_;replace hst := (hst.grow hC).kp hk_25 hs_26;intro w_28 hC;replace hC := hC.bl col_16;refine wret ?_;cases hm;replace hb_27 := hb_27.gr hC;replace hst := hst.grow hC;exact ⟨rfl, _, res_ta rfl rfl rfl rfl Tryz.isAgg26 Tryz.sizeOf26 rfl rfl hb_27.atN, _, none, 0, rfl, hst.fin (cm []), Own.nil⟩
 refine wmix (col := col_16) [(0, 1), (1, 0), (2, 1), (3, 2)] (by kernel_rfl) (by kernel_rfl) <| xu rfl rfl (fun _ => r_mS rfl) ?_;refine xv rfl rfl (fun _ hC => r_ldB Tryz.isAgg26 Tryz.sizeOf26 (hb_22.gr (hC.bl col_16))) ?_;refine xu rfl rfl (fun _ => r_aS rfl) ?_;refine xe rfl rfl ?_;intro w_29 hC0;have hC := hC0.bl col_16;replace hb_5 := hb_5.gr hC;refine l_bsA hb_5 ?_;intro w_30 hk_31 hs_32 hb_33;refine lnil <| xk col_16 <| xnil ?_;replace rh_10 := (rh_10.gr hC).kp hk_31;replace hst := (hst.grow hC).kp hk_31 hs_32;intro w_34 hC;replace hC := hC.bl col_16;refine wret ?_;cases hm;replace rh_10 := rh_10.gr hC;replace hb_33 := hb_33.gr hC;replace hst := hst.grow hC;exact ⟨rfl, _, res_ta rfl rfl rfl rfl Tryz.isAgg26 Tryz.sizeOf26 rfl rfl hb_33.atN, _, _, _, rfl, hst.fin (cm [(2, c1)]), hst.fo rh_10⟩
def m_r06_Same_L1 (N : Nat) (p0_a : (List (Int × ByteArray × Int × Int))) (p1_b : (List (Int × ByteArray × Int × Int))) : Nat → Int → Option Bool
  | 0, _ => none
  | n_1 + 1, i_4 => if (decide (i_4 < (p0_a.length : Int))) = true then ((at? p0_a i_4).bind fun e_5 => (at? p1_b i_4).bind fun e_15 => if (!(decide (e_5.1 = e_15.1) && decide (e_5.2.1 = e_15.2.1) && decide (e_5.2.2.1 = e_15.2.2.1) && decide (e_5.2.2.2 = e_15.2.2.2))) = true then (some false) else ((m_r06_Same_L1 N p0_a p1_b n_1) (IntKind.i64.wrap (i_4 + 1)))) else (some true)
termination_by structural x => x
def m_r06_Same (N : Nat) (p0_a : (List (Int × ByteArray × Int × Int))) (p1_b : (List (Int × ByteArray × Int × Int))) : Option Bool :=
  if (!decide ((p0_a.length : Int) = (p1_b.length : Int))) = true then (some false) else (m_r06_Same_L1 N p0_a p1_b N 0)
theorem c_r06_Same {N cap0 cap1 : Nat} {a0 a1 : Option Addr} {col : Col} {w0 : World} {p0_a p1_b : (List (Int × ByteArray × Int × Int))} {r : Bool} (hm : m_r06_Same N p0_a p1_b = some r) (h0 : Sl (Rep.pair (Rep.int .i8) (Rep.pair Rep.str (Rep.pair (Rep.int .i64) (Rep.int .i64)))) col w0 a0 cap0 p0_a) (h1 : Sl (Rep.pair (Rep.int .i8) (Rep.pair Rep.str (Rep.pair (Rep.int .i64) (Rep.int .i64)))) col w0 a1 cap1 p1_b) :
    Calls Tryz.prog 14 #[(.slice a0 p0_a.length cap0), (.slice a1 p1_b.length cap1)] w0 (fun e w' => e = .returned ((.bool r)) ∧ Below w0.heap.size w0 w') := by
 refine calls_of1 4 (m := 26) Tryz.func14 rfl rfl rfl rfl rfl ?_;rw [m_r06_Same.eq_1] at hm;have hst := St.start col w0;refine go ?_;replace h0 := h0.keep (Stay.start col w0);replace h1 := h1.keep (Stay.start col w0);refine wcb hm (fun hb hm => go ?_) fun hb hm => go ?_
 ·cases hm;exact ⟨rfl, rfl, hst.below⟩
 refine wloopK [0, 1, 1000000] (fun n f w_2 => ∃ col_3 i_4 n_1, n_1 = n ∧ m_r06_Same_L1 N p0_a p1_b n_1 i_4 = some r ∧ St w0 (col0 col) col_3 w_2 ∧ [5].map f = [.int .i64 i_4]) N ⟨_, 0, _, rfl, hm, hst, rfl⟩ ?_;clear hm; intro n f w_2 hI;obtain ⟨col_3, i_4, n_1, hn, hm, hst, hs⟩ := hI;subst hn;refine .lL [5] hs ?_
 cases n_1 with
 | zero => rw [m_r06_Same_L1.eq_1] at hm; cases hm
 | succ n_1 =>
  rw [m_r06_Same_L1.eq_2] at hm;refine go ?_;refine wcb hm (fun hb hm => go ?_) fun hb hm => go ?_
  ·refine wquiet (col := col_3) (by kernel_rfl) (by kernel_rfl) <| go ?_;obtain ⟨e_5, hj_6, hm⟩ := bZ hm;refine qI hj_6 ((h0.ks hst).addr hj_6) ?_;obtain ⟨_, hr_7, hA_8⟩ := (h0.ks hst).atN hj_6;obtain ⟨_, _, rfl, hp_9, hp_10⟩ := rd_pair hr_7;obtain ⟨rfl, _⟩ := hp_9;obtain ⟨_, _, rfl, hp_11, hp_12⟩ := rd_pair hp_10;obtain ⟨rfl, _⟩ := hp_11;obtain ⟨_, _, rfl, hp_13, hp_14⟩ := rd_pair hp_12;obtain ⟨rfl, _⟩ := hp_13;obtain ⟨rfl, _⟩ := hp_14;refine qv (v := (.agg #[(.int .i8 e_5.1), (.string e_5.2.1), (.int .i64 e_5.2.2.1), (.int .i64 e_5.2.2.2)])) rfl (fun _ hC => r_ldN Tryz.isAgg38 Tryz.sizeOf38 rfl rfl (hA_8.gr (hC.bl col_3))) ?_;refine go ?_;obtain ⟨e_15, hj_16, hm⟩ := bZ hm;refine qI hj_16 ((h1.ks hst).addr hj_16) ?_;obtain ⟨_, hr_17, hA_18⟩ := (h1.ks hst).atN hj_16;obtain ⟨_, _, rfl, hp_19, hp_20⟩ := rd_pair hr_17;obtain ⟨rfl, _⟩ := hp_19;obtain ⟨_, _, rfl, hp_21, hp_22⟩ := rd_pair hp_20;obtain ⟨rfl, _⟩ := hp_21;obtain ⟨_, _, rfl, hp_23, hp_24⟩ := rd_pair hp_22;obtain ⟨rfl, _⟩ := hp_23;obtain ⟨rfl, _⟩ := hp_24;refine qv (v := (.agg #[(.int .i8 e_15.1), (.string e_15.2.1), (.int .i64 e_15.2.2.1), (.int .i64 e_15.2.2.2)])) rfl (fun _ hC => r_ldN Tryz.isAgg38 Tryz.sizeOf38 rfl rfl (hA_18.gr (hC.bl col_3))) ?_;refine qv (v := (.bool (!(decide (e_5.1 = e_15.1) && decide (e_5.2.1 = e_15.2.1) && decide (e_5.2.2.1 = e_15.2.2.1) && decide (e_5.2.2.2 = e_15.2.2.2))))) rfl (fun _ hC => r_neqA rfl rfl (by decide +kernel) (eq_struct4 Tryz.underlying38 (by decide +kernel) (by decide) (by decide) (by decide) (by decide) (r_part Tryz.isAgg36 rfl) (r_part Tryz.isAgg36 rfl) (r_part Tryz.isAgg9 rfl) (r_part Tryz.isAgg9 rfl) (r_part Tryz.isAgg3 rfl) (r_part Tryz.isAgg3 rfl) (r_part Tryz.isAgg3 rfl) (r_part Tryz.isAgg3 rfl) (peq_int e_5.1 e_15.1 Tryz.underlying36) (peq_str e_5.2.1 e_15.2.1 Tryz.underlying9) (peq_int e_5.2.2.1 e_15.2.2.1 Tryz.underlying3) (peq_int e_5.2.2.2 e_15.2.2.2 Tryz.underlying3))) ?_;refine qnil ?_;intro w_25 hC;replace hC := hC.bl col_3;replace hst := hst.grow hC;refine wcb hm (fun hb hm => go ?_) fun hb hm => go ?_
   ·cases hm;exact ⟨rfl, rfl, hst.below⟩
   exact ⟨n_1, by omega, rfl, ⟨_, _, _, rfl, hm, hst, rfl⟩⟩
  cases hm;exact ⟨rfl, rfl, hst.below⟩
def m_l06_LexScan_J3 (v_189 : Bool) : Option Bool :=
  some v_189
def m_l06_LexScan_L2 (N : Nat) (p0_text : ByteArray) (r_1 : Bool) (r_5 : ((List (Int × ByteArray × Int × Int)) × (Int × Int × Int × ByteArray))) (one_60 : Bool) (r_61 : ((List (Int × ByteArray × Int × Int)) × (Option (Int × Int × Int × ByteArray)))) (r_85 : ((List (Int × ByteArray × Int × Int)) × (Int × Int × Int × ByteArray))) (two_116 : Bool) : Nat → Int → (List (Int × ByteArray × Int × Int)) → Option Bool
  | 0, _, _ => none
  | n_133 + 1, i_136, a_137 => if (decide (i_136 < 30)) = true then (chk ((a_137.length + ([(8, ⟨#[]⟩, 0, 0)] : List (Int × ByteArray × Int × Int)).length) * 40 ≤ 140737488355328 ∧ a_137.length + ([(8, ⟨#[]⟩, 0, 0)] : List (Int × ByteArray × Int × Int)).length ≤ maxLen) ((m_l06_LexScan_L2 N p0_text r_1 r_5 one_60 r_61 r_85 two_116 n_133) (IntKind.i64.wrap (i_136 + 1)) (a_137 ++ ([(8, ⟨#[]⟩, 0, 0)] : List (Int × ByteArray × Int × Int))))) else ((m_lex_Scan N p0_text).bind fun r_153 => if r_1 = true then (if one_60 = true then (if two_116 = true then ((m_r06_Same N r_61.1 r_85.1).bind fun r_193 => if r_193 = true then ((m_r06_Same N r_153.1 r_5.1).bind fun r_198 => m_l06_LexScan_J3 r_198) else (m_l06_LexScan_J3 false)) else (m_l06_LexScan_J3 false)) else (m_l06_LexScan_J3 false)) else (m_l06_LexScan_J3 false))
termination_by structural x => x
def m_l06_LexScan_L1 (N : Nat) (p0_text : ByteArray) (r_1 : Bool) (r_5 : ((List (Int × ByteArray × Int × Int)) × (Int × Int × Int × ByteArray))) (one_60 : Bool) (r_61 : ((List (Int × ByteArray × Int × Int)) × (Option (Int × Int × Int × ByteArray)))) (r_85 : ((List (Int × ByteArray × Int × Int)) × (Int × Int × Int × ByteArray))) (two_116 : Bool) : Nat → Int → (List (Int × ByteArray × Int × Int)) → Option Bool
  | 0, _, _ => none
  | n_117 + 1, i_120, a_121 => if (decide (i_120 < (a_121.length : Int))) = true then ((at? a_121 i_120).bind fun e_125 => (some (a_121.set (Int.toNat i_120) (9, ⟨#[]⟩, 0, 0))).bind fun xs_132 => (m_l06_LexScan_L1 N p0_text r_1 r_5 one_60 r_61 r_85 two_116 n_117) (IntKind.i64.wrap (i_120 + 1)) xs_132) else (m_l06_LexScan_L2 N p0_text r_1 r_5 one_60 r_61 r_85 two_116 N 0 a_121)
termination_by structural x => x
def m_l06_LexScan_J2 (N : Nat) (p0_text : ByteArray) (r_1 : Bool) (r_5 : ((List (Int × ByteArray × Int × Int)) × (Int × Int × Int × ByteArray))) (r_22 : ((List (Int × ByteArray × Int × Int)) × (Option (Int × Int × Int × ByteArray)))) (one_60 : Bool) (r_61 : ((List (Int × ByteArray × Int × Int)) × (Option (Int × Int × Int × ByteArray)))) (r_85 : ((List (Int × ByteArray × Int × Int)) × (Int × Int × Int × ByteArray))) (two_116 : Bool) : Option Bool :=
  m_l06_LexScan_L1 N p0_text r_1 r_5 one_60 r_61 r_85 two_116 N 0 r_22.1
def m_l06_LexScan_J1 (N : Nat) (p0_text : ByteArray) (p1_other : ByteArray) (r_1 : Bool) (r_5 : ((List (Int × ByteArray × Int × Int)) × (Int × Int × Int × ByteArray))) (r_22 : ((List (Int × ByteArray × Int × Int)) × (Option (Int × Int × Int × ByteArray)))) (one_60 : Bool) : Option Bool :=
  (m_lex_Scan N p1_other).bind fun r_61 => (m_l06_told r_61.2).bind fun r_71 => (m_r06_Scan N p1_other).bind fun r_85 => if r_71.2 = true then (if (decide (r_71.1.1 = r_85.2.1) && decide (r_71.1.2.1 = r_85.2.2.1) && decide (r_71.1.2.2.1 = r_85.2.2.2.1) && decide (r_71.1.2.2.2 = r_85.2.2.2.2)) = true then ((m_r06_Same N r_61.1 r_85.1).bind fun r_204 => m_l06_LexScan_J2 N p0_text r_1 r_5 r_22 one_60 r_61 r_85 r_204) else (m_l06_LexScan_J2 N p0_text r_1 r_5 r_22 one_60 r_61 r_85 false)) else (m_l06_LexScan_J2 N p0_text r_1 r_5 r_22 one_60 r_61 r_85 false)
def m_l06_LexScan (N : Nat) (p0_text : ByteArray) (p1_other : ByteArray) : Option Bool :=
  (m_l06_awake N).bind fun r_1 => (m_r06_Scan N p0_text).bind fun r_5 => (m_lex_Scan N p0_text).bind fun r_22 => (m_l06_told r_22.2).bind fun r_32 => if r_32.2 = true then (if (decide (r_5.2.1 = r_32.1.1) && decide (r_5.2.2.1 = r_32.1.2.1) && decide (r_5.2.2.2.1 = r_32.1.2.2.1) && decide (r_5.2.2.2.2 = r_32.1.2.2.2)) = true then ((m_r06_Same N r_22.1 r_5.1).bind fun r_210 => m_l06_LexScan_J1 N p0_text p1_other r_1 r_5 r_22 r_210) else (m_l06_LexScan_J1 N p0_text p1_other r_1 r_5 r_22 false)) else (m_l06_LexScan_J1 N p0_text p1_other r_1 r_5 r_22 false)
theorem c_l06_LexScan (N : Nat) (col : Col) (w0 : World) (p0_text : ByteArray) (p1_other : ByteArray) (hgl : Gl (.iface 146 (.agg #[.pointer (some ⟨4, 30, none⟩)])) col w0) (r : Bool) (hm : m_l06_LexScan N p0_text p1_other = some r) :
    Calls Tryz.prog 3 #[(.string p0_text), (.string p1_other)] w0 (fun e w' => e = .returned ((.bool r)) ∧ Below w0.heap.size w0 w') := by
 refine calls_of1 4 (m := 115) Tryz.func3 rfl rfl rfl rfl rfl ?_;rw [m_l06_LexScan.eq_1] at hm;have hst := St.start col w0;refine go ?_;obtain ⟨r_1, hr_2, hm⟩ := bZ hm;replace hgl := hgl.keep (Stay.start col w0);refine lc rfl rfl (r_call0 Tryz.call10 ) (c_l06_awake hr_2 hgl :) ?_;rintro _ w_3 ⟨rfl, hg_4⟩;refine ⟨_, rfl, ?_⟩;replace hg_4 : Grow (col0 col) w0 (col0 col) w_3 := .of_below hg_4;refine go ?_;obtain ⟨r_5, hr_6, hm⟩ := bZ hm;refine lcA (c_r06_Scan (col := (col0 col)) 1 hr_6) ?_;rintro _ w_10 ⟨col_12, ra_7, rc_8, rfl, hg_11, rh_9⟩;refine ⟨_, rfl, ?_⟩;refine lM (.tuple #[(.slice ra_7 r_5.1.length rc_8), (.agg #[(.int .i64 r_5.2.1), (.int .i64 r_5.2.2.1), (.int .i64 r_5.2.2.2.1), (.string r_5.2.2.2.2)])]) <| lV (.slice ra_7 r_5.1.length rc_8) (r_extract rfl rfl) <| lV (.agg #[(.int .i64 r_5.2.1), (.int .i64 r_5.2.2.1), (.int .i64 r_5.2.2.2.1), (.string r_5.2.2.2.2)]) (r_extract rfl rfl) <| l_allocA (col := col_12) #[(.int .i64 0), (.int .i64 0), (.int .i64 0), (.string (⟨#[]⟩))] 2 Tryz.zeroValue26 ?_;intro g_13 w_14 col_15 hg_16 hb_17;refine lAS rfl <| l_bsA hb_17 ?_;intro w_18 hk_19 hs_20 hb_21;refine go ?_;obtain ⟨r_22, hr_23, hm⟩ := bZ hm;replace hgl := (((hgl.gr hg_4).gr hg_11).gr hg_16).kp hk_19;refine lcA (c_lex_Scan 3 hr_23 hgl) ?_;rintro _ w_29 ⟨col_31, ra_24, rc_25, rv_27, rfl, hg_30, rh_26, rh_28⟩;refine ⟨_, rfl, ?_⟩;refine lM (.tuple #[(.slice ra_24 r_22.1.length rc_25), rv_27]) <| lV (.slice ra_24 r_22.1.length rc_25) (r_extract rfl rfl) <| lv (v := rv_27) rfl rfl (r_extract rfl rfl) <| lAS rfl <| lv (v := rv_27) rfl rfl (r_assign rfl) <| go ?_;refine lv (v := rv_27) rfl rfl (r_move rfl) ?_;obtain ⟨r_32, hr_33, hm⟩ := bZ hm;replace hgl := hgl.gr hg_30;refine lcA (c_l06_told hr_33 rh_28 hgl) ?_;rintro _ w_34 ⟨col_36, rfl, hg_35⟩;refine ⟨_, rfl, ?_⟩;refine lM (.tuple #[(.agg #[(.int .i64 r_32.1.1), (.int .i64 r_32.1.2.1), (.int .i64 r_32.1.2.2.1), (.string r_32.1.2.2.2)]), (.bool r_32.2)]) <| lV (.agg #[(.int .i64 r_32.1.1), (.int .i64 r_32.1.2.1), (.int .i64 r_32.1.2.2.1), (.string r_32.1.2.2.2)]) (r_extract rfl rfl) <| lV (.bool r_32.2) (r_extract rfl rfl) <| l_allocA (col := col_36) #[(.int .i64 0), (.int .i64 0), (.int .i64 0), (.string (⟨#[]⟩))] 4 Tryz.zeroValue26 ?_;intro g_37 w_38 col_39 hg_40 hb_41;refine l_bsA hb_41 ?_;intro w_42 hk_43 hs_44 hb_45;refine lAB rfl <| lnil <| wseq ?_;replace hst := (((((((hst.grow hg_4).grow hg_11).grow hg_16).kp hk_19 hs_20).grow hg_30).grow hg_35).grow hg_40).kp hk_43 hs_44;replace rh_9 := (((((rh_9.gr hg_16).kp hk_19).gr hg_30).gr hg_35).gr hg_40).kp hk_43;replace hb_21 := (((hb_21.gr hg_30).gr hg_35).gr hg_40).kp hk_43;replace hgl := ((hgl.gr hg_35).gr hg_40).kp hk_43;replace rh_26 := ((rh_26.gr hg_35).gr hg_40).kp hk_43
 refine Wp.cutK [0, 1, 5, 6, 8, 1000000] (fun f w_58 => ∃ col_59 one_60, m_l06_LexScan_J1 N p0_text p1_other r_1 r_5 r_22 one_60 = some r ∧ St w0 (col0 col) col_59 w_58 ∧ Own (Rep.pair (Rep.int .i8) (Rep.pair Rep.str (Rep.pair (Rep.int .i64) (Rep.int .i64)))) 38 1 col_59 w_58 ra_7 rc_8 r_5.1 ∧ Own (Rep.pair (Rep.int .i8) (Rep.pair Rep.str (Rep.pair (Rep.int .i64) (Rep.int .i64)))) 38 3 col_59 w_58 ra_24 rc_25 r_22.1 ∧ Gl (.iface 146 (.agg #[.pointer (some ⟨4, 30, none⟩)])) col_59 w_58 ∧ [12].map f = [.bool one_60]) ?_ ?_
 ·intro f w_58 hJ;obtain ⟨col_59, one_60, hm, hst, rh_9, rh_26, hgl, hs⟩ := hJ;rw [m_l06_LexScan_J1.eq_1] at hm;refine .lL [12] hs <| go ?_;obtain ⟨r_61, hr_62, hm⟩ := bZ hm;refine lcA (c_lex_Scan 5 hr_62 hgl) ?_;rintro _ w_68 ⟨col_70, ra_63, rc_64, rv_66, rfl, hg_69, rh_65, rh_67⟩;refine ⟨_, rfl, ?_⟩;refine lM (.tuple #[(.slice ra_63 r_61.1.length rc_64), rv_66]) <| lV (.slice ra_63 r_61.1.length rc_64) (r_extract rfl rfl) <| lv (v := rv_66) rfl rfl (r_extract rfl rfl) <| lAS rfl <| lv (v := rv_66) rfl rfl (r_assign rfl) <| go ?_;refine lv (v := rv_66) rfl rfl (r_move rfl) ?_;obtain ⟨r_71, hr_72, hm⟩ := bZ hm;replace hgl := hgl.gr hg_69;refine lcA (c_l06_told hr_72 rh_67 hgl) ?_;rintro _ w_73 ⟨col_75, rfl, hg_74⟩;refine ⟨_, rfl, ?_⟩;refine lM (.tuple #[(.agg #[(.int .i64 r_71.1.1), (.int .i64 r_71.1.2.1), (.int .i64 r_71.1.2.2.1), (.string r_71.1.2.2.2)]), (.bool r_71.2)]) <| lV (.agg #[(.int .i64 r_71.1.1), (.int .i64 r_71.1.2.1), (.int .i64 r_71.1.2.2.1), (.string r_71.1.2.2.2)]) (r_extract rfl rfl) <| lV (.bool r_71.2) (r_extract rfl rfl) <| l_allocA (col := col_75) #[(.int .i64 0), (.int .i64 0), (.int .i64 0), (.string (⟨#[]⟩))] 6 Tryz.zeroValue26 ?_;intro g_76 w_77 col_78 hg_79 hb_80;refine l_bsA hb_80 ?_;intro w_81 hk_82 hs_83 hb_84;refine go ?_;obtain ⟨r_85, hr_86, hm⟩ := bZ hm;refine lcA (c_r06_Scan (col := col_78) 7 hr_86) ?_;rintro _ w_90 ⟨col_92, ra_87, rc_88, rfl, hg_91, rh_89⟩;refine ⟨_, rfl, ?_⟩;refine lM (.tuple #[(.slice ra_87 r_85.1.length rc_88), (.agg #[(.int .i64 r_85.2.1), (.int .i64 r_85.2.2.1), (.int .i64 r_85.2.2.2.1), (.string r_85.2.2.2.2)])]) <| lV (.slice ra_87 r_85.1.length rc_88) (r_extract rfl rfl) <| lV (.agg #[(.int .i64 r_85.2.1), (.int .i64 r_85.2.2.1), (.int .i64 r_85.2.2.2.1), (.string r_85.2.2.2.2)]) (r_extract rfl rfl) <| l_allocA (col := col_92) #[(.int .i64 0), (.int .i64 0), (.int .i64 0), (.string (⟨#[]⟩))] 8 Tryz.zeroValue26 ?_;intro g_93 w_94 col_95 hg_96 hb_97;refine lAS rfl <| l_bsA hb_97 ?_;intro w_98 hk_99 hs_100 hb_101;refine lnil <| wseq ?_;replace rh_9 := ((((((rh_9.gr hg_69).gr hg_74).gr hg_79).kp hk_82).gr hg_91).gr hg_96).kp hk_99;replace rh_26 := ((((((rh_26.gr hg_69).gr hg_74).gr hg_79).kp hk_82).gr hg_91).gr hg_96).kp hk_99;replace hst := ((((((hst.grow hg_69).grow hg_74).grow hg_79).kp hk_82 hs_83).grow hg_91).grow hg_96).kp hk_99 hs_100;replace hgl := (((((hgl.gr hg_74).gr hg_79).kp hk_82).gr hg_91).gr hg_96).kp hk_99;replace rh_65 := (((((rh_65.gr hg_74).gr hg_79).kp hk_82).gr hg_91).gr hg_96).kp hk_99;replace hb_84 := ((hb_84.gr hg_91).gr hg_96).kp hk_99;replace rh_89 := (rh_89.gr hg_96).kp hk_99
  refine Wp.cutK [0, 12, 13, 15, 5, 6, 8, 1000000] (fun f w_114 => ∃ col_115 two_116, m_l06_LexScan_J2 N p0_text r_1 r_5 r_22 one_60 r_61 r_85 two_116 = some r ∧ St w0 (col0 col) col_115 w_114 ∧ Own (Rep.pair (Rep.int .i8) (Rep.pair Rep.str (Rep.pair (Rep.int .i64) (Rep.int .i64)))) 38 5 col_115 w_114 ra_63 rc_64 r_61.1 ∧ Own (Rep.pair (Rep.int .i8) (Rep.pair Rep.str (Rep.pair (Rep.int .i64) (Rep.int .i64)))) 38 7 col_115 w_114 ra_87 rc_88 r_85.1 ∧ Own (Rep.pair (Rep.int .i8) (Rep.pair Rep.str (Rep.pair (Rep.int .i64) (Rep.int .i64)))) 38 1 col_115 w_114 ra_7 rc_8 r_5.1 ∧ Own (Rep.pair (Rep.int .i8) (Rep.pair Rep.str (Rep.pair (Rep.int .i64) (Rep.int .i64)))) 38 3 col_115 w_114 ra_24 rc_25 r_22.1 ∧ Gl (.iface 146 (.agg #[.pointer (some ⟨4, 30, none⟩)])) col_115 w_114 ∧ [17].map f = [.bool two_116]) ?_ ?_
  ·intro f w_114 hJ;obtain ⟨col_115, two_116, hm, hst, rh_65, rh_89, rh_9, rh_26, hgl, hs⟩ := hJ;rw [m_l06_LexScan_J2.eq_1] at hm;refine .lL [17] hs <| go ?_;refine wloopK [0, 12, 13, 15, 17, 5, 6, 1000000] (fun n f w_118 => ∃ col_119 i_120 a_122 cap_123 a_121 n_117, n_117 = n ∧ m_l06_LexScan_L1 N p0_text r_1 r_5 one_60 r_61 r_85 two_116 n_117 i_120 a_121 = some r ∧ St w0 (col0 col) col_119 w_118 ∧ Own (Rep.pair (Rep.int .i8) (Rep.pair Rep.str (Rep.pair (Rep.int .i64) (Rep.int .i64)))) 38 5 col_119 w_118 ra_63 rc_64 r_61.1 ∧ Own (Rep.pair (Rep.int .i8) (Rep.pair Rep.str (Rep.pair (Rep.int .i64) (Rep.int .i64)))) 38 7 col_119 w_118 ra_87 rc_88 r_85.1 ∧ Own (Rep.pair (Rep.int .i8) (Rep.pair Rep.str (Rep.pair (Rep.int .i64) (Rep.int .i64)))) 38 1 col_119 w_118 ra_7 rc_8 r_5.1 ∧ Own (Rep.pair (Rep.int .i8) (Rep.pair Rep.str (Rep.pair (Rep.int .i64) (Rep.int .i64)))) 38 3 col_119 w_118 a_122 cap_123 a_121 ∧ Gl (.iface 146 (.agg #[.pointer (some ⟨4, 30, none⟩)])) col_119 w_118 ∧ [18, 8].map f = [.int .i64 i_120, .slice a_122 a_121.length cap_123]) N ⟨_, 0, _, _, _, _, rfl, hm, hst, rh_65, rh_89, rh_9, rh_26, hgl, rfl⟩ ?_;clear hm; intro n f w_118 hI;obtain ⟨col_119, i_120, a_122, cap_123, a_121, n_117, hn, hm, hst, rh_65, rh_89, rh_9, h_124, hgl, hs⟩ := hI;subst hn;refine .lL [18, 8] hs ?_
   cases n_117 with
   | zero => rw [m_l06_LexScan_L1.eq_1] at hm; cases hm
   | succ n_117 =>
    rw [m_l06_LexScan_L1.eq_2] at hm;refine go ?_;refine wcb hm (fun hb hm => go ?_) fun hb hm => go ?_
    ·refine lV (.agg #[(.int .i8 9), (.string (⟨#[]⟩)), (.int .i64 0), (.int .i64 0)]) (r_build (l := [_, _, _, _]) (qs := [(0, 1), (1, 1), (2, 1), (3, 1)]) Tryz.underlying38 Tryz.zeroValue38 ⟨rfl, Tryz.sizeOf36, rfl, Tryz.sizeOf9, rfl, Tryz.sizeOf3, rfl, Tryz.sizeOf3, trivial⟩ rfl) ?_;obtain ⟨e_125, hj_126, hm⟩ := bZ hm;refine lI hj_126 (h_124.addr hj_126) ?_;obtain ⟨xs_132, hz_131, hm⟩ := bZ hm;have hz_131 : xs_132 = a_121.set (Int.toNat i_120) (9, ⟨#[]⟩, 0, 0) := (Option.some.inj hz_131).symm;refine l_store (x1 := (9, ⟨#[]⟩, 0, 0)) (v := (.agg #[(.int .i8 9), (.string (⟨#[]⟩)), (.int .i64 0), (.int .i64 0)])) h_124 hj_126 rfl Tryz.sizeOf38 (rd_pairI (rd_int .i8 9) (rd_pairI (rd_str (⟨#[]⟩)) (rd_pairI (rd_int .i64 0) (rd_int .i64 0)))) rfl rfl (by decide) ?_;intro w_127 hk_128 hs_129 h_130;rw [← hz_131] at h_130;refine .ld (d := 8) (v := (.slice a_122 xs_132.length cap_123)) (congrArg (fun n => Value.slice a_122 n cap_123) (show a_121.length = xs_132.length by rw [hz_131, List.length_set])) ?_;refine go ?_;replace rh_65 := rh_65.kp hk_128;replace rh_89 := rh_89.kp hk_128;replace rh_9 := rh_9.kp hk_128;replace hgl := hgl.kp hk_128;replace hst := hst.kp hk_128 hs_129;exact ⟨n_117, by omega, rfl, ⟨_, _, _, _, _, _, rfl, hm, hst, rh_65, rh_89, rh_9, h_130, hgl, rfl⟩⟩
    refine wloopK [0, 12, 13, 15, 17, 5, 6, 1000000] (fun n f w_134 => ∃ col_135 i_136 a_138 cap_139 a_137 n_133, n_133 = n ∧ m_l06_LexScan_L2 N p0_text r_1 r_5 one_60 r_61 r_85 two_116 n_133 i_136 a_137 = some r ∧ St w0 (col0 col) col_135 w_134 ∧ Own (Rep.pair (Rep.int .i8) (Rep.pair Rep.str (Rep.pair (Rep.int .i64) (Rep.int .i64)))) 38 5 col_135 w_134 ra_63 rc_64 r_61.1 ∧ Own (Rep.pair (Rep.int .i8) (Rep.pair Rep.str (Rep.pair (Rep.int .i64) (Rep.int .i64)))) 38 7 col_135 w_134 ra_87 rc_88 r_85.1 ∧ Own (Rep.pair (Rep.int .i8) (Rep.pair Rep.str (Rep.pair (Rep.int .i64) (Rep.int .i64)))) 38 1 col_135 w_134 ra_7 rc_8 r_5.1 ∧ Own (Rep.pair (Rep.int .i8) (Rep.pair Rep.str (Rep.pair (Rep.int .i64) (Rep.int .i64)))) 38 3 col_135 w_134 a_138 cap_139 a_137 ∧ Gl (.iface 146 (.agg #[.pointer (some ⟨4, 30, none⟩)])) col_135 w_134 ∧ [19, 8].map f = [.int .i64 i_136, .slice a_138 a_137.length cap_139]) N ⟨_, 0, _, _, _, _, rfl, hm, hst, rh_65, rh_89, rh_9, h_124, hgl, rfl⟩ ?_;clear hm; intro n f w_134 hI;obtain ⟨col_135, i_136, a_138, cap_139, a_137, n_133, hn, hm, hst, rh_65, rh_89, rh_9, h_140, hgl, hs⟩ := hI;subst hn;refine .lL [19, 8] hs ?_
    cases n_133 with
    | zero => rw [m_l06_LexScan_L2.eq_1] at hm; cases hm
    | succ n_133 =>
     rw [m_l06_LexScan_L2.eq_2] at hm;refine go ?_;refine wcb hm (fun hb hm => go ?_) fun hb hm => go ?_
     ·refine lV (.agg #[(.int .i8 8), (.string (⟨#[]⟩)), (.int .i64 0), (.int .i64 0)]) (r_build (l := [_, _, _, _]) (qs := [(0, 1), (1, 1), (2, 1), (3, 1)]) Tryz.underlying38 Tryz.zeroValue38 ⟨rfl, Tryz.sizeOf36, rfl, Tryz.sizeOf9, rfl, Tryz.sizeOf3, rfl, Tryz.sizeOf3, trivial⟩ rfl) <| l_litA (col := col_135) (r := (Rep.pair (Rep.int .i8) (Rep.pair Rep.str (Rep.pair (Rep.int .i64) (Rep.int .i64))))) (xs := ([(8, ⟨#[]⟩, 0, 0)] : List (Int × ByteArray × Int × Int))) [(.agg #[(.int .i8 8), (.string (⟨#[]⟩)), (.int .i64 0), (.int .i64 0)])] 9 (RowsH.ofF (Rows.consF (r := (Rep.pair (Rep.int .i8) (Rep.pair Rep.str (Rep.pair (Rep.int .i64) (Rep.int .i64))))) (x := (8, ⟨#[]⟩, 0, 0)) (cs := [(.int .i8 8), (.string (⟨#[]⟩)), (.int .i64 0), (.int .i64 0)]) (rd_pairI (rd_int .i8 8) (rd_pairI (rd_str (⟨#[]⟩)) (rd_pairI (rd_int .i64 0) (rd_int .i64 0)))) Rows.nil0)) ?_;intro a_141 w_142 col_143 hg_144 h_145;obtain ⟨hb_146, hm⟩ := chk_some hm;replace h_140 := h_140.gr hg_144;refine l_appA h_140 (h_145.srcN (NB.pair (NB.int (k := .i8)) (NB.pair NB.str (NB.pair (NB.int (k := .i64)) (NB.int (k := .i64)))))) hb_146 ?_;intro a_147 cap_148 w_149 col_150 hk_151 h_152;refine go ?_;replace rh_65 := (rh_65.gr hg_144).kpp hk_151;replace rh_89 := (rh_89.gr hg_144).kpp hk_151;replace rh_9 := (rh_9.gr hg_144).kpp hk_151;replace hgl := (hgl.gr hg_144).kpp hk_151;replace hst := (hst.grow hg_144).kpp hk_151;exact ⟨n_133, by omega, rfl, ⟨_, _, _, _, _, _, rfl, hm, hst, rh_65, rh_89, rh_9, h_152, hgl, rfl⟩⟩
     obtain ⟨r_153, hr_154, hm⟩ := bZ hm;refine lcA (c_lex_Scan 10 hr_154 hgl) ?_;rintro _ w_160 ⟨col_162, ra_155, rc_156, rv_158, rfl, hg_161, rh_157, rh_159⟩;refine ⟨_, rfl, ?_⟩;refine lM (.tuple #[(.slice ra_155 r_153.1.length rc_156), rv_158]) <| lV (.slice ra_155 r_153.1.length rc_156) (r_extract rfl rfl) <| lv (v := rv_158) rfl rfl (r_extract rfl rfl) <| lAS rfl <| lv (v := rv_158) rfl rfl (r_assign rfl) <| lnil <| wseq ?_;replace rh_65 := rh_65.gr hg_161;replace rh_89 := rh_89.gr hg_161;replace rh_9 := rh_9.gr hg_161;replace hgl := hgl.gr hg_161;replace hst := hst.grow hg_161;refine Wp.cutK [1000000] (fun f w_187 => ∃ col_188 v_189, m_l06_LexScan_J3 v_189 = some r ∧ St w0 (col0 col) col_188 w_187 ∧ Gl (.iface 146 (.agg #[.pointer (some ⟨4, 30, none⟩)])) col_188 w_187 ∧ [4].map f = [.bool v_189]) ?_ ?_
     ·intro f w_187 hJ;obtain ⟨col_188, v_189, hm, hst, hgl, hs⟩ := hJ;rw [m_l06_LexScan_J3.eq_1] at hm;refine .lL [4] hs <| wret ?_;cases hm;exact ⟨rfl, rfl, hst.below⟩
     refine go ?_;refine bcb hm (fun hg_190 hm => go ?_) fun hg_190 hm => go ?_
     ·refine lV (.bool one_60) (r_pickT (congrArg Value.bool hg_190) rfl) <| lMB rfl ?_;refine bcb hm (fun hg_191 hm => go ?_) fun hg_191 hm => go ?_
      ·refine lV (.bool two_116) (r_pickT (congrArg Value.bool hg_191) rfl) <| lMB rfl ?_;refine bcb hm (fun hg_192 hm => go ?_) fun hg_192 hm => go ?_
       ·obtain ⟨r_193, hr_194, hm⟩ := bZ hm;refine lcA (c_r06_Same hr_194 ((rh_65.toSlF (Froz.pair (Froz.int .i8) (Froz.pair Froz.str (Froz.pair (Froz.int .i64) (Froz.int .i64))))).froz 7) ((rh_89.froz 5 (by decide)).toSlF (Froz.pair (Froz.int .i8) (Froz.pair Froz.str (Froz.pair (Froz.int .i64) (Froz.int .i64)))))) ?_;rintro _ w_195 ⟨rfl, hg_196⟩;refine ⟨_, rfl, ?_⟩;replace hg_196 : Grow col_162 w_160 col_162 w_195 := .of_below hg_196;refine lV (.bool r_193) (r_pickT (congrArg Value.bool hg_192) rfl) <| lMB rfl ?_;replace rh_9 := rh_9.gr hg_196;replace hgl := hgl.gr hg_196;replace rh_157 := rh_157.gr hg_196;replace hst := hst.grow hg_196;refine bcb hm (fun hg_197 hm => go ?_) fun hg_197 hm => go ?_
        ·obtain ⟨r_198, hr_199, hm⟩ := bZ hm;refine lcA (c_r06_Same hr_199 ((rh_157.toSlF (Froz.pair (Froz.int .i8) (Froz.pair Froz.str (Froz.pair (Froz.int .i64) (Froz.int .i64))))).froz 1) ((rh_9.froz 10 (by decide)).toSlF (Froz.pair (Froz.int .i8) (Froz.pair Froz.str (Froz.pair (Froz.int .i64) (Froz.int .i64)))))) ?_;rintro _ w_200 ⟨rfl, hg_201⟩;refine ⟨_, rfl, ?_⟩;replace hg_201 : Grow col_162 w_195 col_162 w_200 := .of_below hg_201;refine lV (.bool r_198) (r_pickT (congrArg Value.bool hg_197) rfl) <| go ?_;replace hgl := hgl.gr hg_201;replace hst := hst.grow hg_201;exact ⟨rfl, _, _, hm, hst, hgl, rfl⟩
        refine lV (.bool false) (r_pickF (congrArg Value.bool hg_197) rfl) <| go ?_;exact ⟨rfl, _, _, hm, hst, hgl, rfl⟩
       refine lV (.bool false) (r_pickF (congrArg Value.bool hg_192) rfl) <| lMB rfl <| lP 110 rfl rfl <| lP 110 rfl rfl <| lP 110 rfl rfl <| lV (.bool false) (r_pickF rfl rfl) <| go ?_;exact ⟨rfl, _, _, hm, hst, hgl, rfl⟩
      refine lV (.bool false) (r_pickF (congrArg Value.bool hg_191) rfl) <| lMB rfl <| lP 105 rfl rfl <| lP 105 rfl rfl <| lP 105 rfl rfl <| lV (.bool false) (r_pickF rfl rfl) <| lMB rfl <| lP 110 rfl rfl <| lP 110 rfl rfl <| lP 110 rfl rfl <| lV (.bool false) (r_pickF rfl rfl) <| go ?_;exact ⟨rfl, _, _, hm, hst, hgl, rfl⟩
     refine lV (.bool false) (r_pickF (congrArg Value.bool hg_190) rfl) <| lMB rfl <| lP 102 rfl rfl <| lV (.bool false) (r_pickF rfl rfl) <| lMB rfl <| lP 105 rfl rfl <| lP 105 rfl rfl <| lP 105 rfl rfl <| lV (.bool false) (r_pickF rfl rfl) <| lMB rfl <| lP 110 rfl rfl <| lP 110 rfl rfl <| lP 110 rfl rfl <| lV (.bool false) (r_pickF rfl rfl) <| go ?_;exact ⟨rfl, _, _, hm, hst, hgl, rfl⟩
  refine go ?_;refine bcb hm (fun hg_202 hm => go ?_) fun hg_202 hm => go ?_
  ·refine lV _ (r_ldB Tryz.isAgg26 Tryz.sizeOf26 hb_84) <| go ?_;refine lV _ (r_ldB Tryz.isAgg26 Tryz.sizeOf26 hb_101) <| go ?_;refine lV (.bool (decide (r_71.1.1 = r_85.2.1) && decide (r_71.1.2.1 = r_85.2.2.1) && decide (r_71.1.2.2.1 = r_85.2.2.2.1) && decide (r_71.1.2.2.2 = r_85.2.2.2.2))) (r_eqlA rfl rfl (by decide +kernel) (eq_struct4 Tryz.underlying26 (by decide +kernel) (by decide) (by decide) (by decide) (by decide) (r_part Tryz.isAgg24 rfl) (r_part Tryz.isAgg24 rfl) (r_part Tryz.isAgg3 rfl) (r_part Tryz.isAgg3 rfl) (r_part Tryz.isAgg3 rfl) (r_part Tryz.isAgg3 rfl) (r_part Tryz.isAgg9 rfl) (r_part Tryz.isAgg9 rfl) (peq_int r_71.1.1 r_85.2.1 Tryz.underlying24) (peq_int r_71.1.2.1 r_85.2.2.1 Tryz.underlying3) (peq_int r_71.1.2.2.1 r_85.2.2.2.1 Tryz.underlying3) (peq_str r_71.1.2.2.2 r_85.2.2.2.2 Tryz.underlying9))) <| lV (.bool (decide (r_71.1.1 = r_85.2.1) && decide (r_71.1.2.1 = r_85.2.2.1) && decide (r_71.1.2.2.1 = r_85.2.2.2.1) && decide (r_71.1.2.2.2 = r_85.2.2.2.2))) (r_pickT (congrArg Value.bool hg_202) rfl) <| lMB rfl ?_;refine bcb hm (fun hg_203 hm => go ?_) fun hg_203 hm => go ?_
   ·obtain ⟨r_204, hr_205, hm⟩ := bZ hm;refine lcA (c_r06_Same hr_205 ((rh_65.toSlF (Froz.pair (Froz.int .i8) (Froz.pair Froz.str (Froz.pair (Froz.int .i64) (Froz.int .i64))))).froz 7) ((rh_89.froz 5 (by decide)).toSlF (Froz.pair (Froz.int .i8) (Froz.pair Froz.str (Froz.pair (Froz.int .i64) (Froz.int .i64)))))) ?_;rintro _ w_206 ⟨rfl, hg_207⟩;refine ⟨_, rfl, ?_⟩;replace hg_207 : Grow col_95 w_98 col_95 w_206 := .of_below hg_207;refine lV (.bool r_204) (r_pickT (congrArg Value.bool hg_203) rfl) <| go ?_;replace rh_9 := rh_9.gr hg_207;replace rh_26 := rh_26.gr hg_207;replace hgl := hgl.gr hg_207;replace rh_65 := rh_65.gr hg_207;replace rh_89 := rh_89.gr hg_207;replace hst := hst.grow hg_207;exact ⟨rfl, _, _, hm, hst, rh_65, rh_89, rh_9, rh_26, hgl, rfl⟩
   refine lV (.bool false) (r_pickF (congrArg Value.bool hg_203) rfl) <| go ?_;exact ⟨rfl, _, _, hm, hst, rh_65, rh_89, rh_9, rh_26, hgl, rfl⟩
  refine lV (.bool false) (r_pickF (congrArg Value.bool hg_202) rfl) <| lMB rfl <| lP 70 rfl rfl <| lP 70 rfl rfl <| lP 70 rfl rfl <| lV (.bool false) (r_pickF rfl rfl) <| go ?_;exact ⟨rfl, _, _, hm, hst, rh_65, rh_89, rh_9, rh_26, hgl, rfl⟩
 refine go ?_;refine bcb hm (fun hg_208 hm => go ?_) fun hg_208 hm => go ?_
 ·refine lV _ (r_ldB Tryz.isAgg26 Tryz.sizeOf26 hb_21) <| go ?_;refine lV _ (r_ldB Tryz.isAgg26 Tryz.sizeOf26 hb_45) <| go ?_;refine lV (.bool (decide (r_5.2.1 = r_32.1.1) && decide (r_5.2.2.1 = r_32.1.2.1) && decide (r_5.2.2.2.1 = r_32.1.2.2.1) && decide (r_5.2.2.2.2 = r_32.1.2.2.2))) (r_eqlA rfl rfl (by decide +kernel) (eq_struct4 Tryz.underlying26 (by decide +kernel) (by decide) (by decide) (by decide) (by decide) (r_part Tryz.isAgg24 rfl) (r_part Tryz.isAgg24 rfl) (r_part Tryz.isAgg3 rfl) (r_part Tryz.isAgg3 rfl) (r_part Tryz.isAgg3 rfl) (r_part Tryz.isAgg3 rfl) (r_part Tryz.isAgg9 rfl) (r_part Tryz.isAgg9 rfl) (peq_int r_5.2.1 r_32.1.1 Tryz.underlying24) (peq_int r_5.2.2.1 r_32.1.2.1 Tryz.underlying3) (peq_int r_5.2.2.2.1 r_32.1.2.2.1 Tryz.underlying3) (peq_str r_5.2.2.2.2 r_32.1.2.2.2 Tryz.underlying9))) <| lV (.bool (decide (r_5.2.1 = r_32.1.1) && decide (r_5.2.2.1 = r_32.1.2.1) && decide (r_5.2.2.2.1 = r_32.1.2.2.1) && decide (r_5.2.2.2.2 = r_32.1.2.2.2))) (r_pickT (congrArg Value.bool hg_208) rfl) <| lMB rfl ?_;refine bcb hm (fun hg_209 hm => go ?_) fun hg_209 hm => go ?_
  ·obtain ⟨r_210, hr_211, hm⟩ := bZ hm;refine lcA (c_r06_Same hr_211 ((rh_26.toSlF (Froz.pair (Froz.int .i8) (Froz.pair Froz.str (Froz.pair (Froz.int .i64) (Froz.int .i64))))).froz 1) ((rh_9.froz 3 (by decide)).toSlF (Froz.pair (Froz.int .i8) (Froz.pair Froz.str (Froz.pair (Froz.int .i64) (Froz.int .i64)))))) ?_;rintro _ w_212 ⟨rfl, hg_213⟩;refine ⟨_, rfl, ?_⟩;replace hg_213 : Grow col_39 w_42 col_39 w_212 := .of_below hg_213;refine lV (.bool r_210) (r_pickT (congrArg Value.bool hg_209) rfl) <| go ?_;replace hgl := hgl.gr hg_213;replace rh_9 := rh_9.gr hg_213;replace rh_26 := rh_26.gr hg_213;replace hst := hst.grow hg_213;exact ⟨rfl, _, _, hm, hst, rh_9, rh_26, hgl, rfl⟩
  refine lV (.bool false) (r_pickF (congrArg Value.bool hg_209) rfl) <| go ?_;exact ⟨rfl, _, _, hm, hst, rh_9, rh_26, hgl, rfl⟩
 refine lV (.bool false) (r_pickF (congrArg Value.bool hg_208) rfl) <| lMB rfl <| lP 44 rfl rfl <| lP 44 rfl rfl <| lP 44 rfl rfl <| lV (.bool false) (r_pickF rfl rfl) <| go ?_;exact ⟨rfl, _, _, hm, hst, rh_9, rh_26, hgl, rfl⟩
def scanR (l : List TokV) : Option FltV → List TokV × Option FltV
 | none => (l, none)
 | some e => ([], some e)
theorem scan_L1 (f : Option FltV) (v : List TokV) (e0 : Option FltV) : ∀ (l acc : List TokV), acc.length + l.length ≤ 33554435 →
  m_lex_Scan_L1 (l.map (fun x => (x, none)) ++ flL f) v e0 acc = some (scanR (acc ++ l) f)
 | [], acc, h => by
  cases f with
  | none => rw [List.map_nil, List.nil_append, flL, m_lex_Scan_L1.eq_1, List.append_nil]; rfl
  | some e => rw [List.map_nil, List.nil_append, flL, m_lex_Scan_L1.eq_2, List.append_nil]; rfl
 | x :: l, acc, h => by
  rw [List.length_cons] at h
  rw [List.map_cons, List.cons_append, m_lex_Scan_L1.eq_2, if_neg (by exact fun e => by cases e)]
  have hc : (acc.length + [x].length) * 40 ≤ 140737488355328 ∧ acc.length + [x].length ≤ maxLen := by
   have : [x].length = 1 := rfl
   rw [this]; simp only [maxLen]; omega
  refine (chk_pos hc).trans ?_
  have := scan_L1 f v e0 l (acc ++ [x]) (by rw [List.length_append]; simp only [List.length_cons, List.length_nil]; omega)
  rw [List.append_assoc] at this
  exact this
section
variable {N : Nat} {t : ByteArray} (ht : t.size ≤ 33554432) (hN : 33554467 ≤ N) {l : List TokV} {f : Option FltV} (h : LexR t 0 (1, 1) l f)
include ht hN h
theorem lex_scan_eq : m_lex_Scan N t = some (scanR l f) := by
 have := h.facts (by omega)
 rw [m_lex_Scan, lex_each_eq ht (by omega) (by omega) h (by omega), Option.bind_some, scan_L1 f _ _ l [] (by simp; omega)]
 rfl
theorem ref_scan_eq : m_r06_Scan N t = some ((scanR l f).1, fltO f) := by
 have := h.facts (by omega)
 rw [m_r06_Scan, ref_all_eq ht (by omega) (by omega) h, Option.bind_some]
 cases f with
 | none => rw [if_neg (by show ¬ (!decide ((0 : Int) = 0)) = true; decide)]; rfl
 | some e => rw [if_pos (by show (!decide (e.1 = 0)) = true; rw [decide_eq_false (this.2.2 e rfl)]; rfl)]; rfl
end
theorem told06_eq {e : Option FltV} (h : ∀ x, e = some x → x.1 ≠ 0) : m_l06_told e = some (fltO e, true) := by
 cases e with
 | none => rfl
 | some x =>
  rw [m_l06_told, if_neg (by exact fun e => by cases e)]
  show m_l06_told_J2 x (decide (x.1 = 0)) = _
  rw [decide_eq_false (h x rfl)]; rfl
theorem tok_same_L1 {N : Nat} (x : List TokV) (hx : x.length ≤ 33554456) : ∀ (f i : Nat), i ≤ x.length → x.length < f + i → m_r06_Same_L1 N x x f (i : Int) = some true
 | 0, i, h1, h2 => by omega
 | f + 1, i, h1, h2 => by
  rw [m_r06_Same_L1.eq_2]
  by_cases hi : i < x.length
  ·rw [if_pos (decide_eq_true (by omega)), at?_lt hi, Option.bind_some, Option.bind_some, if_neg (by rw [decide_eq_true rfl, decide_eq_true rfl, decide_eq_true rfl, decide_eq_true rfl]; decide), w64 (by omega), show (i : Int) + 1 = ((i + 1 : Nat) : Int) by omega]
   exact tok_same_L1 x hx f (i + 1) (by omega) (by omega)
  ·rw [if_neg (nd (by omega))]
theorem tok_same {N : Nat} (hN : 33554467 ≤ N) (x : List TokV) (hx : x.length ≤ 33554456) : m_r06_Same N x x = some true := by
 rw [m_r06_Same, if_neg (by rw [decide_eq_true rfl]; decide)]
 exact tok_same_L1 x hx N 0 (by omega) (by omega)
theorem awake_true : m_l06_awake 33554467 = some true := by decide +kernel
theorem scanR_len {t : ByteArray} {l : List TokV} {f : Option FltV} (ht : t.size ≤ 33554432) (h : LexR t 0 (1, 1) l f) : (scanR l f).1.length ≤ 33554433 := by
 have := h.facts (by omega)
 cases f with
 | none => show l.length ≤ _; omega
 | some e => exact Nat.zero_le _
theorem scanR_err {t : ByteArray} {l : List TokV} {f : Option FltV} (h : LexR t 0 (1, 1) l f) : (scanR l f).2 = f ∧ ∀ x, f = some x → x.1 ≠ 0 := by
 have := h.facts (by omega)
 exact ⟨by cases f <;> rfl, this.2.2⟩
theorem lexScan_true (a b : ByteArray) (ha : a.size ≤ 33554432) (hb : b.size ≤ 33554432) : m_l06_LexScan 33554467 a b = some true := by
 obtain ⟨l, f, h⟩ := lexR_ex a a.size 0 (1, 1) (by omega) (by omega)
 obtain ⟨l', f', h'⟩ := lexR_ex b b.size 0 (1, 1) (by omega) (by omega)
 have s1 := lex_scan_eq (N := 33554467) ha (by omega) h
 have s2 := ref_scan_eq (N := 33554467) ha (by omega) h
 have s3 := lex_scan_eq (N := 33554467) hb (by omega) h'
 have s4 := ref_scan_eq (N := 33554467) hb (by omega) h'
 obtain ⟨e1, e2⟩ := scanR_err h
 obtain ⟨e3, e4⟩ := scanR_err h'
 have n1 := scanR_len ha h
 have n2 := scanR_len hb h'
 have L2 : ∀ (g i : Nat) (x : List TokV), x.length ≤ 33554433 + i → i ≤ 30 → 30 < g + i → m_l06_LexScan_L2 33554467 a true ((scanR l f).1, fltO f) true (scanR l' f') ((scanR l' f').1, fltO f') true g (i : Int) x = some true := by
  intro g
  induction g with
  | zero => intro i x h1 h2 h3; omega
  | succ g ih =>
   intro i x h1 h2 h3
   rw [m_l06_LexScan_L2.eq_2]
   by_cases hi : i < 30
   ·have hc : (x.length + ([(8, ⟨#[]⟩, 0, 0)] : List TokV).length) * 40 ≤ 140737488355328 ∧ x.length + ([(8, ⟨#[]⟩, 0, 0)] : List TokV).length ≤ maxLen := by
     have : ([(8, ⟨#[]⟩, 0, 0)] : List TokV).length = 1 := rfl
     rw [this]; simp only [maxLen]; omega
    rw [if_pos (decide_eq_true (by omega)), chk_pos hc, w64 (by omega), show (i : Int) + 1 = ((i + 1 : Nat) : Int) by omega]
    exact ih (i + 1) _ (by rw [List.length_append]; simp only [List.length_cons, List.length_nil]; omega) (by omega) (by omega)
   ·rw [if_neg (nd (by omega)), s1, Option.bind_some, if_pos rfl, if_pos rfl, if_pos rfl]
    dsimp only
    rw [tok_same (by omega) _ (by omega), Option.bind_some, if_pos rfl, tok_same (by omega) _ (by omega), Option.bind_some]; rfl
 have L1 : ∀ (g i : Nat) (x : List TokV), x.length ≤ 33554433 → i ≤ x.length → x.length < g + i → m_l06_LexScan_L1 33554467 a true ((scanR l f).1, fltO f) true (scanR l' f') ((scanR l' f').1, fltO f') true g (i : Int) x = some true := by
  intro g
  induction g with
  | zero => intro i x h1 h2 h3; omega
  | succ g ih =>
   intro i x h1 h2 h3
   rw [m_l06_LexScan_L1.eq_2]
   by_cases hi : i < x.length
   ·rw [if_pos (decide_eq_true (by omega)), at?_lt hi, Option.bind_some, Option.bind_some, w64 (by omega), show (i : Int) + 1 = ((i + 1 : Nat) : Int) by omega]
    exact ih (i + 1) _ (by rw [List.length_set]; omega) (by rw [List.length_set]; omega) (by rw [List.length_set]; omega)
   ·rw [if_neg (nd (by omega))]
    exact L2 33554467 0 x (by omega) (by omega) (by omega)
 have tt : ∀ (x : FltV), (decide (x.1 = x.1) && decide (x.2.1 = x.2.1) && decide (x.2.2.1 = x.2.2.1) && decide (x.2.2.2 = x.2.2.2)) = true := fun x => by
  rw [decide_eq_true rfl, decide_eq_true rfl, decide_eq_true rfl, decide_eq_true rfl]; rfl
 rw [m_l06_LexScan, awake_true, Option.bind_some, s2, Option.bind_some, s1, Option.bind_some, e1, told06_eq e2, Option.bind_some]
 dsimp only
 rw [if_pos rfl, if_pos (tt _), tok_same (by omega) _ (by omega), Option.bind_some, m_l06_LexScan_J1, s3, Option.bind_some, e3, told06_eq e4, Option.bind_some, s4, Option.bind_some]
 dsimp only
 rw [if_pos rfl, if_pos (tt _), tok_same (by omega) _ (by omega), Option.bind_some, m_l06_LexScan_J2]
 exact L1 33554467 0 _ n1 (by omega) (by omega)

end Go.Proofs.YtnfegieaaaigmaaGreatDoor
