/-
  'RadixBack' (credence/credencelaw10.RadixBack): whatever the input, the call returns true and the arguments read afterwards as before. No conditions.
-/
import Derived.Test.YtgfaoflipkmpcaaRows
import Derived.Test.YtgfaoflipkmpcaaRadixBackF2
import Derived.WalkKit
import Derived.ProofKit
import Derived.OpenShut
import Derived.ShutString
import Derived.ChangeOld
import Derived.Below
import Derived.SizedLaws
namespace Go.Proofs.Ytgfaoflipkmpcaa.radixBack
open Go Go.ChangeShapes Go.WideShapes Go.ChangeAt Go.RowKit
open Go.ChangeMaps (open_string shut_string)
set_option linter.unusedVariables false

theorem own : ownKnob Try.prog.godebug = none := by kernel_rfl
theorem laidOut : laidOutB Try.prog = true := by kernel_rfl

/-- What is told of a slice of integers that came in. -/
def IsRow (k : IntKind) (by_ : Nat) (w : World) (a : Option Addr) (len cap : Nat) (zs : List Int) : Prop :=
  (a = none ∧ len = 0 ∧ cap = 0 ∧ zs = []) ∨
  ∃ x, a = some x ∧ len ≤ cap ∧ cap ≤ maxLen ∧ len * by_ ≤ 140737488351232 ∧ zs.length = cap ∧ (∀ i, i < zs.length → w.cell? (x.add i) = some (.int k (zs.getD i 0))) ∧ ∀ n ∈ zs, (Lit.int k n).wf = true
theorem IsRow.sl {k : IntKind} {by_ : Nat} {w : World} {a : Option Addr} {len cap : Nat} {zs : List Int} (h : IsRow k by_ w a len cap zs) :
    len = (zs.take len).length ∧ Sl (Rep.int k) (fun _ => 0) w a cap (zs.take len) ∧ (zs.take len).length * by_ ≤ 140737488351232 ∧ ∀ n ∈ zs.take len, (Lit.int k n).wf = true := by
  rcases h with ⟨rfl, rfl, rfl, rfl⟩ | ⟨x, rfl, h1, h2, h3, h4, h5, h6⟩
  · exact ⟨rfl, .nil, by simp, by simp⟩
  · have hl : (zs.take len).length = len := by rw [List.length_take]; omega
    refine ⟨hl.symm, ints_sl (by omega) (by omega) fun i hi => ?_, by rw [hl]; exact h3, fun n hn => h6 n (List.mem_of_mem_take hn)⟩
    rw [hl] at hi
    rw [h5 i (by omega)]
    congr 2
    rw [List.getD_eq_getElem?_getD, List.getD_eq_getElem?_getD, List.getElem?_take, if_pos hi]

theorem i64_fit {n : Int} (h : (Lit.int .i64 n).wf = true) : fit_int n := by
  have h2 : IntKind.i64.min ≤ n ∧ n ≤ 9223372036854775807 := by simpa [Lit.wf] using h
  rw [show IntKind.i64.min = -9223372036854775808 by decide] at h2
  exact h2
theorem alive_ok (N : Nat) (hN : 3 ≤ N) : m_credencelaw10_alive N = some true := by
  unfold m_credencelaw10_alive
  rw [show m_radix_At_int [2, 3] [1, 2] = some (5, 0) by decide +kernel, dig_int32 N [2, 3] 5 (by intro x hx; simp only [List.mem_cons, List.not_mem_nil, or_false] at hx; rcases hx with rfl | rfl <;> exact ⟨by decide, by decide⟩) (by simp; omega) (by simp),
    show dgS [2, 3] 5 = ([1, 2], 0) by decide +kernel, show m_radix_Count_credencelaw10_Small [2, 3] = some (6, 0) by decide +kernel]
  decide +kernel

theorem modded {a n : Int} (hn : 1 ≤ n) (h : n ≤ 2147483647) (K : Int → Option Bool) : ∃ i, 0 ≤ i ∧ i < n ∧ (chk (n ≠ 0) (if (decide ((Int.tmod a n) < 0)) = true then K (IntKind.i64.wrap ((Int.tmod a n) + n)) else K (Int.tmod a n))) = K i := by
  have m1 : Int.tmod a n < n := Int.tmod_lt_of_pos _ (by omega)
  have m2 : -n < Int.tmod a n := by
    have := Int.tmod_lt_of_pos (-a) (show (0 : Int) < n by omega)
    rw [Int.neg_tmod] at this; omega
  rw [chk_pos (by omega)]
  by_cases hl : Int.tmod a n < 0
  · exact ⟨Int.tmod a n + n, by omega, by omega, by rw [if_pos (decide_eq_true hl), w64 (by omega)]⟩
  · exact ⟨Int.tmod a n, by omega, by omega, by rw [if_neg (by simpa using hl)]⟩

/-- The last place has the greatest digits. -/
theorem top_digits : ∀ (r : List Int) (a : Int), (∀ x ∈ r, 1 ≤ x) → a + 1 = prd r → ∀ i, i < r.length → (digR r a).getD i 0 = r.getD i 0 - 1
  | [], _, _, _, i, h => by simp at h
  | s :: r, a, hp, ha, i, h => by
    have hs := hp s (by simp)
    simp only [prd] at ha
    have e : a = s - 1 + s * (prd r - 1) := by rw [Int.mul_sub, Int.mul_one]; omega
    have hm : a % s = s - 1 := by rw [e, Int.add_mul_emod_self_left, Int.emod_eq_of_lt (by omega) (by omega)]
    have hq : a / s = prd r - 1 := by rw [e, Int.add_mul_ediv_left _ _ (by omega), Int.ediv_eq_zero_of_lt (by omega) (by omega), Int.zero_add]
    cases i with
    | zero => simp [digR, hm]
    | succ i =>
      simp only [digR, List.getD_cons_succ]
      exact top_digits r (a / s) (fun y hy => hp y (by simp [hy])) (by rw [hq]; omega) i (by simpa using h)

/-- The next place's digits. -/
theorem next_digits : ∀ (r : List Int) (a : Int), (∀ x ∈ r, 1 ≤ x) → 0 ≤ a → a + 1 < prd r → ∃ t, t < r.length ∧ (∀ i, i < t → (digR r a).getD i 0 = r.getD i 0 - 1 ∧ (digR r (a + 1)).getD i 0 = 0) ∧
    (digR r a).getD t 0 ≠ r.getD t 0 - 1 ∧ (digR r (a + 1)).getD t 0 = (digR r a).getD t 0 + 1 ∧ ∀ i, t < i → (digR r (a + 1)).getD i 0 = (digR r a).getD i 0
  | [], a, _, h0, h1 => by simp only [prd] at h1; omega
  | s :: r, a, hp, h0, h1 => by
    have hs := hp s (by simp)
    have hde := Int.mul_ediv_add_emod a s
    have hm0 : 0 ≤ a % s := Int.emod_nonneg _ (by omega)
    have hm1 : a % s < s := Int.emod_lt_of_pos _ (by omega)
    have hq0 : 0 ≤ a / s := Int.ediv_nonneg h0 (by omega)
    by_cases hl : a % s = s - 1
    · have e : a + 1 = s * (a / s + 1) := by rw [Int.mul_add, Int.mul_one]; omega
      have em : (a + 1) % s = 0 := by rw [e, Int.mul_emod_right]
      have eq : (a + 1) / s = a / s + 1 := by rw [e, Int.mul_ediv_cancel_left _ (by omega)]
      have hlt : a / s + 1 < prd r := by
        simp only [prd] at h1
        rw [e] at h1
        exact Int.lt_of_mul_lt_mul_left h1 (by omega)
      obtain ⟨t, q1, q2, q3, q4, q5⟩ := next_digits r (a / s) (fun y hy => hp y (by simp [hy])) hq0 hlt
      refine ⟨t + 1, by simpa using q1, fun i hi => ?_, ?_, ?_, fun i hi => ?_⟩
      · cases i with
        | zero => simp [digR, hl, em]
        | succ i => simp only [digR, List.getD_cons_succ, eq]; exact q2 i (by omega)
      · simpa only [digR, List.getD_cons_succ] using q3
      · simpa only [digR, List.getD_cons_succ, eq] using q4
      · cases i with
        | zero => omega
        | succ i => simp only [digR, List.getD_cons_succ, eq]; exact q5 i (by omega)
    · have e : a + 1 = (a % s + 1) + s * (a / s) := by omega
      have em : (a + 1) % s = a % s + 1 := by rw [e, Int.add_mul_emod_self_left, Int.emod_eq_of_lt (by omega) (by omega)]
      have eq : (a + 1) / s = a / s := by rw [e, Int.add_mul_ediv_left _ _ (by omega), Int.ediv_eq_zero_of_lt (by omega) (by omega), Int.zero_add]
      refine ⟨0, by simp, fun i hi => by omega, by simpa [digR] using hl, by simp [digR, em], fun i hi => ?_⟩
      cases i with
      | zero => omega
      | succ i => simp only [digR, List.getD_cons_succ, eq]

theorem rev_getD {l : List Int} {i : Nat} (h : i < l.length) : l.reverse.getD i 0 = l.getD (l.length - 1 - i) 0 := by
  rw [List.getD_eq_getElem?_getD, List.getD_eq_getElem?_getD, List.getElem?_reverse h]

theorem loop1 (N : Nat) (s d : List Int) (nx : List Int × Int) (hl : d.length = s.length) (hlen : s.length < 1000) (hsb : ∀ x ∈ s, 1 ≤ x ∧ x ≤ 9) (hd : ∀ i, i < s.length → d.getD i 0 = s.getD i 0 - 1) (h3 : nx.2 = 3) :
    ∀ (fuel k : Nat), k ≤ s.length → s.length - k < fuel → m_credencelaw10_RadixBack_L1 N s (d, 0) nx fuel (k : Int) = some true := by
  intro fuel
  induction fuel with
  | zero => intro k _ h; omega
  | succ fuel ih =>
    intro k hk hf
    rw [m_credencelaw10_RadixBack_L1.eq_2]
    by_cases hlt : k < s.length
    · have hb := hsb _ (getD_mem hlt)
      rw [if_pos (decide_eq_true (by simp only; omega)), at_get (by simp only; omega), at_get hlt]
      simp only [Option.bind_some]
      rw [hd k hlt, w64 (n := s.getD k 0 - 1) (by omega), if_neg (by simp), wrap_up (by omega)]
      exact ih (k + 1) (by omega) (by omega)
    · rw [if_neg (by simp; omega), h3]; rfl

theorem loop3 (N : Nat) (d nx : List Int) (q : Nat) (hq : q < d.length) (hl : nx.length = d.length) (hlen : d.length < 1000) (he : ∀ i, i < q → nx.getD i 0 = d.getD i 0) :
    ∀ (fuel k : Nat), k ≤ q → q - k < fuel → m_credencelaw10_RadixBack_L3 N (d, 0) (nx, 0) (q : Int) fuel (k : Int) = some true := by
  intro fuel
  induction fuel with
  | zero => intro k _ h; omega
  | succ fuel ih =>
    intro k hk hf
    rw [m_credencelaw10_RadixBack_L3.eq_2]
    by_cases hlt : k < q
    · rw [if_pos (decide_eq_true (by omega)), at_get (by simp only; omega), at_get (by simp only; omega)]
      simp only [Option.bind_some]
      rw [he k hlt, if_neg (by simp), wrap_up (by omega)]
      exact ih (k + 1) (by omega) (by omega)
    · rw [if_neg (by simp; omega)]

theorem loop2 (N : Nat) (s d nx : List Int) (q0 : Nat) (hN : 1000 < N) (hq : q0 < s.length) (hl : d.length = s.length) (hl2 : nx.length = s.length) (hlen : s.length < 1000) (hsb : ∀ x ∈ s, 1 ≤ x ∧ x ≤ 9)
    (h1 : ∀ i, q0 < i → i < s.length → d.getD i 0 = s.getD i 0 - 1 ∧ nx.getD i 0 = 0) (h2 : d.getD q0 0 ≠ s.getD q0 0 - 1) (h3 : nx.getD q0 0 = d.getD q0 0 + 1) (hdb : -100 ≤ d.getD q0 0 ∧ d.getD q0 0 ≤ 100) (h4 : ∀ i, i < q0 → nx.getD i 0 = d.getD i 0) :
    ∀ (fuel q : Nat), q0 ≤ q → q < s.length → q - q0 < fuel → m_credencelaw10_RadixBack_L2 N s (d, 0) (nx, 0) fuel (q : Int) = some true := by
  intro fuel
  induction fuel with
  | zero => intro q _ _ h; omega
  | succ fuel ih =>
    intro q hq0 hqs hf
    have hb := hsb _ (getD_mem hqs)
    rw [m_credencelaw10_RadixBack_L2.eq_2, if_pos (decide_eq_true (by omega)), at_get (by simp only; omega), at_get hqs]
    simp only [Option.bind_some]
    rw [w64 (n := s.getD q 0 - 1) (by omega)]
    unfold m_credencelaw10_RadixBack_J5
    by_cases he : q = q0
    · subst he
      rw [decide_eq_false h2, if_neg (by decide), if_neg (by simp), at_get (by simp only; omega), at_get (by simp only; omega)]
      simp only [Option.bind_some]
      rw [w64 (n := d.getD q 0 + 1) (by omega), h3]
      unfold m_credencelaw10_RadixBack_J6
      rw [if_neg (by simp)]
      exact loop3 N d nx q (by omega) (by omega) (by omega) h4 N 0 (by omega) (by omega)
    · obtain ⟨k1, k2⟩ := h1 q (by omega) hqs
      rw [decide_eq_true k1, if_pos rfl, at_get (by simp only; omega)]
      simp only [Option.bind_some]
      rw [k2, if_neg (by simp)]
      obtain ⟨j, rfl⟩ : ∃ j, q = j + 1 := ⟨q - 1, by omega⟩
      rw [wrap_dn j (by omega)]
      exact ih j (by omega) (by omega) (by omega)

theorem core (N : Nat) (s : List Int) (k : Int) (hN : 1000 < N) (hsb : ∀ x ∈ s, 1 ≤ x ∧ x ≤ 9) (ls : s.length ≤ 7) (k0 : 0 ≤ k) (k1 : k < prd s) : m_credencelaw10_RadixBack_J2 N s (prd s, 0) k = some true := by
  have fs : ∀ x ∈ s, fit_int x := fun x hx => by have := hsb x hx; unfold fit_int; omega
  have hs1 : ∀ x ∈ s, 1 ≤ x := fun x hx => (hsb x hx).1
  have ps : prd s ≤ 9 ^ 7 := prd_le s 7 hsb ls
  rw [show (9 : Int) ^ 7 = 4782969 by decide] at ps
  have qs := prd_pos hs1
  have dl : ((digR s.reverse k).reverse).length = s.length := by simp [digR_length]
  have dl2 : ((digR s.reverse (k + 1)).reverse).length = s.length := by simp [digR_length]
  unfold m_credencelaw10_RadixBack_J2
  rw [dig_int N s k fs (by omega) (by omega), dgS_digR hs1 (by omega) k0 k1]
  simp only [Option.bind_some]
  have hat : m_radix_At_int s (digR s.reverse k).reverse = some (k, 0) := by
    rw [at_all hs1 fs (by omega) dl (dig_range hs1)]
    have a1 := pl_digR s.reverse k (fun x hx => hs1 x (List.mem_reverse.1 hx)) k0 (by rw [prd_reverse]; exact k1)
    rw [List.reverse_reverse] at a1
    rw [a1]
  rw [hat]
  simp only [Option.bind_some, decide_true, Bool.not_true, Bool.false_eq_true, if_false, dl]
  unfold m_credencelaw10_RadixBack_J3
  rw [if_neg (by decide), w64 (n := k + 1) (by omega), dig_int N s (k + 1) fs (by omega) (by omega)]
  simp only [Option.bind_some]
  have hrp : ∀ x ∈ s.reverse, 1 ≤ x := fun x hx => hs1 x (List.mem_reverse.1 hx)
  have rl : s.reverse.length = s.length := by simp
  have dr : ∀ (a : Int) (i : Nat), i < s.length → ((digR s.reverse a).reverse).getD i 0 = (digR s.reverse a).getD (s.length - 1 - i) 0 := fun a i hi => by
    have : (digR s.reverse a).length = s.length := by simp [digR_length]
    rw [rev_getD (by omega), this]
  have sr : ∀ i : Nat, i < s.length → s.reverse.getD (s.length - 1 - i) 0 = s.getD i 0 := fun i hi => by
    rw [rev_getD (by omega), show s.length - 1 - (s.length - 1 - i) = i by omega]
  by_cases hn : k + 1 = prd s
  · rw [if_pos (decide_eq_true hn)]
    refine loop1 N s _ _ dl (by omega) hsb (fun i hi => ?_) (by rw [hn, dgS_over hs1 (by omega) (Int.le_refl _)]) N 0 (by omega) (by omega)
    have := top_digits s.reverse k hrp (by rw [prd_reverse]; exact hn) (s.length - 1 - i) (by omega)
    rw [dr k i hi, this, sr i hi]
  · rw [if_neg (by simpa using hn), dgS_digR hs1 (by omega) (by omega) (by omega)]
    simp only [decide_true, Bool.not_true, Bool.false_eq_true, if_false, dl, dl2]
    unfold m_credencelaw10_RadixBack_J4
    rw [if_neg (by decide)]
    obtain ⟨t, t1, t2, t3, t4, t5⟩ := next_digits s.reverse k hrp k0 (by rw [prd_reverse]; omega)
    rw [rl] at t1
    simp only [dl]
    obtain ⟨q, hq⟩ : ∃ q, s.length = q + 1 := ⟨s.length - 1, by omega⟩
    have hw : IntKind.i64.wrap ((s.length : Int) - 1) = (q : Int) := by rw [hq, wrap_dn q (by omega)]
    rw [hw]
    have hr := dig_range (a := k) hs1 (s.length - 1 - t) (by omega)
    have hb := hsb _ (getD_mem (p := s) (k := s.length - 1 - t) (by omega))
    refine loop2 N s _ _ (s.length - 1 - t) hN (by omega) dl dl2 (by omega) hsb (fun i h1 h2 => ?_) ?_ ?_ (by omega) (fun i h1 => ?_) N q (by omega) (by omega) (by omega)
    · obtain ⟨a1, a2⟩ := t2 (s.length - 1 - i) (by omega)
      rw [dr k i h2, dr (k + 1) i h2, a1, a2, sr i h2]; exact ⟨rfl, rfl⟩
    · rw [dr k _ (by omega), show s.length - 1 - (s.length - 1 - t) = t by omega, ← sr _ (by omega), show s.length - 1 - (s.length - 1 - t) = t by omega]; exact t3
    · rw [dr k _ (by omega), dr (k + 1) _ (by omega), show s.length - 1 - (s.length - 1 - t) = t by omega]; exact t4
    · rw [dr k i (by omega), dr (k + 1) i (by omega)]; exact t5 _ (by omega)

theorem eval (l : List Int) (at_ : Int) (hl : l.length ≤ 17592186043904) : m_credencelaw10_RadixBack (l.length + 2000) l at_ = some true := by
  obtain ⟨s, h5, ls, hsb⟩ := bases_ok (l.length + 2000) l (by omega) (by omega)
  have fs : ∀ x ∈ s, fit_int x := fun x hx => by have := hsb x hx; unfold fit_int; omega
  have hs1 : ∀ x ∈ s, 1 ≤ x := fun x hx => (hsb x hx).1
  have ps : prd s ≤ 9 ^ 7 := prd_le s 7 hsb ls
  rw [show (9 : Int) ^ 7 = 4782969 by decide] at ps
  have qs := prd_pos hs1
  unfold m_credencelaw10_RadixBack
  rw [alive_ok _ (by omega), h5]
  simp only [Option.bind_some]
  rw [cnt_int s fs, cntS_prd hs1 (by omega)]
  simp only [Option.bind_some, decide_true, Bool.not_true, Bool.false_eq_true, if_false]
  rw [decide_eq_false (by omega : ¬ prd s < 1)]
  unfold m_credencelaw10_RadixBack_J1
  rw [if_neg (by decide)]
  obtain ⟨i, i0, i1, hi⟩ := modded (a := at_) qs (by omega) (fun i => m_credencelaw10_RadixBack_J2 (l.length + 2000) s (prd s, 0) i)
  simp only
  rw [hi]
  exact core _ s i (by omega) hsb ls i0 i1

theorem walk (a0 : Option Addr) (len0 cap0 : Nat) (z0 : List Int) (a1 : Int) (w : World) (w0 : IsRow .i64 8 w a0 len0 cap0 z0) (w1 : (Lit.int .i64 a1).wf = true) :
    Calls Try.prog 7 #[.slice a0 len0 cap0, .int .i64 a1] w fun e w' => e = .returned (.bool true) ∧ Below w.heap.size w w' := by
  obtain ⟨h1, h2, h3, h4⟩ := w0.sl
  generalize hp : z0.take len0 = p at *
  subst h1
  exact c_credencelaw10_RadixBack _ (fun _ => 0) w a0 cap0 p h2 a1 true (eval p a1 (by omega))


set_option maxRecDepth 100000 in
theorem lifted (os : Os) (started : os.Started) (H : Type) (enc : TypeId × Value → H) :
    ReturnsInHanded {} Try.checked os 7 .any (Rows.radixBackSpec.pre6 enc Try.prog Try.f7 Rows.radixBackRow.domain false) (Rows.radixBackSpec.post enc Try.prog Try.f7 false true false false) := by
  refine returnsInHanded_of_change_sized (C := Try.checked) own started (by kernel_rfl) Try.func7
    (ChangeSpec.witness6 (enc := enc) (C := Try.checked) false ⟨#[], #[.slice none 0 0, .int .i64 0], []⟩ 8 (by kernel_rfl) (by kernel_rfl) (by kernel_rfl) (by kernel_rfl)) ?_
  intro W base args ds gs before hval0 hW _ hsz0 _
  have hsz : (DataW.weightsEach Try.prog (Try.f7.params.toList ++ Rows.radixBackSpec.plain.varTypes Try.prog) (ds ++ gs)).all (· ≤ reachBytes) = true := hsz0
  clear hsz0
  have hval : ∀ (j : Nat) t v, Try.f7.params[j]? = some t → args[j]? = some v → Value.okWide Try.prog W .any base t v := hval0
  have hW' := hW
  obtain ⟨p, q, hA0, hV, rfl, hfz, hnd⟩ := hW
  have hA : DataW.TrodAll enc Try.prog W 0 (fun _ => true) true Try.f7.params.toList args.toList ds p := hA0
  rw [Try.params7] at hA hval hsz
  obtain ⟨v0, vs0, d0, ds0, p0, q0, hargs, rfl, rfl, h0, r0⟩ := trodAll_cons hA
  obtain ⟨v1, vs1, d1, ds1, p1, q1, rfl, rfl, rfl, h1, r1⟩ := trodAll_cons r0
  obtain ⟨rfl, rfl, rfl⟩ := trodAll_nil r1
  obtain rfl : args = #[v0, v1] := by cases args; simp_all
  obtain ⟨rfl, rfl⟩ := trodVars_none hV
  obtain ⟨a0, len0, cap0, rfl⟩ := okWide_slice Try.underlying22 (hval 0 22 v0 rfl rfl)
  have k0 := h0
  have lt0 : ∀ x ∈ p0, x.block < W.heap.size := by obtain ⟨m, hm⟩ := k0; exact DataW.trod_lt m _ _ _ hm
  obtain ⟨z0, w0⟩ : ∃ zs, IsRow .i64 8 W a0 len0 cap0 zs := by
    obtain ⟨fuel, hf⟩ := h0
    rcases open_ints Try.underlying22 Try.underlying3 (by kernel_rfl) hf with ⟨hcs, _⟩ | ⟨x, l, c, zs, hcs, _, hl, hm, hz, hx, hcell, hwz⟩
    · simp [Value.cells] at hcs
      obtain ⟨rfl, rfl, rfl⟩ := hcs
      exact ⟨[], .inl ⟨rfl, rfl, rfl, rfl⟩⟩
    · simp [Value.cells] at hcs
      obtain ⟨rfl, rfl, rfl⟩ := hcs
      simp only [Prod.mk.injEq] at hx
      have hsize := sized_slice hsz (j := 0) (t := 22) (e := 3) rfl (congrArg some hx.1) Try.underlying22
      rw [show Try.prog.bytesOf 3 = 8 from rfl] at hsize
      have hz' : zs.length = cap0 := by simpa using hz
      simp only [lits, List.length_map, List.length_take, List.length_drop, reachBytes] at hsize
      exact ⟨zs, .inr ⟨_, rfl, hl, hm, by omega, hz', hcell, hwz⟩⟩
  obtain ⟨a1, rfl, rfl, rfl, w1⟩ := open_int Try.underlying3 (hval 1 3 v1 rfl rfl) h1
  clear hA0 hval0
  refine (walk a0 len0 cap0 z0 a1 W w0 w1).mono fun e W' ⟨he, bel⟩ => ?_
  subst he
  exact ⟨_, rfl, _, _, _, [], _, [], hW', trodAll_mk1 (shut_bool Try.underlying4 _), (trodAll_cons_mk (Below.trod laidOut (by kernel_rfl) (of_decide_eq_true (by kernel_rfl)) k0 bel lt0) (trodAll_cons_mk (shut_int Try.underlying3 w1) trodAll_mk0)), rfl, bel.frame _, fun h => by cases h⟩

theorem over : Rows.radixBackRow.holds Try.pinned (OpenSpec.ofChange Rows.radixBackSpec) :=
  OpenClaim.holds_of_wide 7 Try.f7 rfl rfl rfl rfl rfl rfl rfl ⟨rfl, rfl, rfl, rfl, rfl⟩ rfl rfl rfl rfl rfl (by kernel_rfl) Try.func7 (by kernel_rfl)
    (of_decide_eq_true (by kernel_rfl)) (by unfold Func.isWrapper; first | (rw [if_pos (by decide +kernel)]; kernel_rfl) | (rw [if_neg (by decide +kernel)]; exact ⟨rfl, rfl⟩))
    (fun os started H enc _ => lifted os started H enc)

theorem proved : Rows.RadixBackSaid := over
#print axioms proved
end Go.Proofs.Ytgfaoflipkmpcaa.radixBack
