/-
  'RadixJoin' (credence/credencelaw10.RadixJoin): whatever the input, the call returns true and the arguments read afterwards as before. No conditions.
-/
import Derived.Test.YtgfaoflipkmpcaaRows
import Derived.Test.YtgfaoflipkmpcaaRadixJoinF2
import Derived.WalkKit
import Derived.ProofKit
import Derived.OpenShut
import Derived.ShutString
import Derived.ChangeOld
import Derived.Below
import Derived.SizedLaws
namespace Go.Proofs.Ytgfaoflipkmpcaa.radixJoin
open Go Go.ChangeShapes Go.WideShapes Go.ChangeAt Go.RowKit
open Go.ChangeMaps (open_string shut_string)
set_option linter.unusedVariables false

theorem own : ownKnob Try.prog.godebug = none := by kernel_rfl
theorem laidOut : laidOutB Try.prog = true := by kernel_rfl

/-- What is told of a slice of integers that came in. -/
def IsRow (k : IntKind) (by_ : Nat) (w : World) (a : Option Addr) (len cap : Nat) (zs : List Int) : Prop :=
  (a = none ∧ len = 0 ∧ cap = 0 ∧ zs = []) ∨
  ∃ x, a = some x ∧ len ≤ cap ∧ cap ≤ maxLen ∧ len * by_ ≤ 140737488351232 ∧ zs.length = cap ∧ (∀ i, i < zs.length → w.cell? (x.add i) = some (.int k (zs.getD i 0))) ∧ ∀ n ∈ zs, (Lit.int k n).wf = true
theorem IsRow.sl {k : IntKind} {by_ : Nat} {w : World} {a : Option Addr} {len cap : Nat} {zs : List Int} (h : IsRow k by_ w a len cap zs) :
    len = (zs.take len).length ∧ Sl (Rep.int k) (fun _ => 0) w a cap (zs.take len) ∧ (zs.take len).length * by_ ≤ 140737488351232 ∧ ∀ n ∈ zs.take len, (Lit.int k n).wf = true := by
  rcases h with ⟨rfl, rfl, rfl, rfl⟩ | ⟨x, rfl, h1, h2, h3, h4, h5, h6⟩
  · exact ⟨rfl, .nil, by simp, by simp⟩
  · have hl : (zs.take len).length = len := by rw [List.length_take]; omega
    refine ⟨hl.symm, ints_sl (by omega) (by omega) fun i hi => ?_, by rw [hl]; exact h3, fun n hn => h6 n (List.mem_of_mem_take hn)⟩
    rw [hl] at hi
    rw [h5 i (by omega)]
    congr 2
    rw [List.getD_eq_getElem?_getD, List.getD_eq_getElem?_getD, List.getElem?_take, if_pos hi]

theorem i64_fit {n : Int} (h : (Lit.int .i64 n).wf = true) : fit_int n := by
  have h2 : IntKind.i64.min ≤ n ∧ n ≤ 9223372036854775807 := by simpa [Lit.wf] using h
  rw [show IntKind.i64.min = -9223372036854775808 by decide] at h2
  exact h2
theorem alive_ok (N : Nat) (hN : 3 ≤ N) : m_credencelaw10_alive N = some true := by
  unfold m_credencelaw10_alive
  rw [show m_radix_At_int [2, 3] [1, 2] = some (5, 0) by decide +kernel, dig_int32 N [2, 3] 5 (by intro x hx; simp only [List.mem_cons, List.not_mem_nil, or_false] at hx; rcases hx with rfl | rfl <;> exact ⟨by decide, by decide⟩) (by simp; omega) (by simp),
    show dgS [2, 3] 5 = ([1, 2], 0) by decide +kernel, show m_radix_Count_credencelaw10_Small [2, 3] = some (6, 0) by decide +kernel]
  decide +kernel

theorem modded {a n : Int} (hn : 1 ≤ n) (h : n ≤ 2147483647) (K : Int → Option Bool) : ∃ i, 0 ≤ i ∧ i < n ∧ (chk (n ≠ 0) (if (decide ((Int.tmod a n) < 0)) = true then K (IntKind.i64.wrap ((Int.tmod a n) + n)) else K (Int.tmod a n))) = K i := by
  have m1 : Int.tmod a n < n := Int.tmod_lt_of_pos _ (by omega)
  have m2 : -n < Int.tmod a n := by
    have := Int.tmod_lt_of_pos (-a) (show (0 : Int) < n by omega)
    rw [Int.neg_tmod] at this; omega
  rw [chk_pos (by omega)]
  by_cases hl : Int.tmod a n < 0
  · exact ⟨Int.tmod a n + n, by omega, by omega, by rw [if_pos (decide_eq_true hl), w64 (by omega)]⟩
  · exact ⟨Int.tmod a n, by omega, by omega, by rw [if_neg (by simpa using hl)]⟩

theorem last (N : Nat) (r5 r13 : List Int) (s t : List Int) (i j : Int)
    (e5 : r5.take (Int.toNat (if 3 < (r5.length : Int) then 3 else (r5.length : Int))) = s) (e13 : r13.take (Int.toNat (if 3 < (r13.length : Int) then 3 else (r13.length : Int))) = t)
    (ls : s.length ≤ 3) (lt : t.length ≤ 3) (hs : ∀ x ∈ s, 1 ≤ x ∧ x ≤ 9) (ht : ∀ x ∈ t, 1 ≤ x ∧ x ≤ 9) (i0 : 0 ≤ i) (i1 : i < prd s) (j0 : 0 ≤ j) (j1 : j < prd t) (hN : 8 ≤ N) :
    m_credencelaw10_RadixJoin_J3 N r5 r13 (prd t, 0) i j = some true := by
  have fs : ∀ x ∈ s, fit_int x := fun x hx => by have := hs x hx; unfold fit_int; omega
  have ft : ∀ x ∈ t, fit_int x := fun x hx => by have := ht x hx; unfold fit_int; omega
  have ps : prd s ≤ 729 := prd_le s 3 hs ls
  have pt : prd t ≤ 729 := prd_le t 3 ht lt
  have hs1 : ∀ x ∈ s, 1 ≤ x := fun x hx => (hs x hx).1
  have ht1 : ∀ x ∈ t, 1 ≤ x := fun x hx => (ht x hx).1
  have qs := prd_pos hs1
  have qt := prd_pos ht1
  have hst : prd s * prd t ≤ 729 * 729 := Int.mul_le_mul ps pt (by omega) (by omega)
  have dl : ((digR s.reverse i).reverse).length = s.length := by simp [digR_length]
  have dl2 : ((digR t.reverse j).reverse).length = t.length := by simp [digR_length]
  unfold m_credencelaw10_RadixJoin_J3
  rw [e5, e13, dig_int N s i fs (by omega) (by omega), dig_int N t j ft (by omega) (by omega), dgS_digR hs1 (by omega) i0 i1, dgS_digR ht1 (by omega) j0 j1]
  simp only [Option.bind_some, List.nil_append]
  rw [chk_pos (by rw [dl]; simp only [List.length_nil, maxLen]; omega), chk_pos (by rw [dl, dl2]; simp only [maxLen]; omega)]
  have hat : m_radix_At_int (s ++ t) ((digR s.reverse i).reverse ++ (digR t.reverse j).reverse) = some (i * prd t + j, 0) := by
    rw [at_all (p := s ++ t) (fun x hx => (List.mem_append.1 hx).elim (hs1 x) (ht1 x)) (fun x hx => (List.mem_append.1 hx).elim (fs x) (ft x)) (by rw [prd_append]; omega) (by simp [digR_length]) ?_]
    · rw [pl_append _ _ _ _ _ dl.symm, pl_shift _ _ _ dl2.symm]
      have a1 := pl_digR s.reverse i (fun x hx => hs1 x (List.mem_reverse.1 hx)) i0 (by rw [prd_reverse]; exact i1)
      have a2 := pl_digR t.reverse j (fun x hx => ht1 x (List.mem_reverse.1 hx)) j0 (by rw [prd_reverse]; exact j1)
      rw [List.reverse_reverse] at a1 a2
      rw [a1, a2]
    · intro k hk
      by_cases hks : k < s.length
      · have := dig_range (a := i) hs1 k hks
        rw [List.getD_eq_getElem?_getD, List.getD_eq_getElem?_getD, List.getElem?_append_left (by omega), List.getElem?_append_left hks, ← List.getD_eq_getElem?_getD, ← List.getD_eq_getElem?_getD]
        exact this
      · have hk2 : k - s.length < t.length := by simp only [List.length_append] at hk; omega
        have := dig_range (a := j) ht1 (k - s.length) hk2
        rw [List.getD_eq_getElem?_getD, List.getD_eq_getElem?_getD, List.getElem?_append_right (by omega), List.getElem?_append_right (by omega), dl, ← List.getD_eq_getElem?_getD, ← List.getD_eq_getElem?_getD]
        exact this
  rw [hat]
  have b0 : 0 ≤ i * prd t := Int.mul_nonneg i0 (by omega)
  have b1 : i * prd t ≤ 729 * 729 := Int.mul_le_mul (by omega) pt (by omega) (by omega)
  simp only [Option.bind_some, decide_true, if_true, m_credencelaw10_RadixJoin_J4]
  rw [w64 (n := i * prd t) (by omega), w64 (by omega)]
  simp

theorem eval (l m : List Int) (at_ by_ : Int) (hl : l.length ≤ 17592186043904) (hm : m.length ≤ 17592186043904) :
    m_credencelaw10_RadixJoin (l.length + m.length + 20) l m at_ by_ = some true := by
  obtain ⟨r5, h5, l5, b5⟩ := bases_ok (l.length + m.length + 20) l (by omega) (by omega)
  obtain ⟨r13, h13, l13, b13⟩ := bases_ok (l.length + m.length + 20) m (by omega) (by omega)
  unfold m_credencelaw10_RadixJoin
  rw [alive_ok _ (by omega), h5, h13]
  simp only [Option.bind_some]
  obtain ⟨c5, e5, x5, y5⟩ : ∃ c : Nat, (if 3 < (r5.length : Int) then 3 else (r5.length : Int)) = (c : Int) ∧ c ≤ 3 ∧ c ≤ r5.length := by
    by_cases h : 3 < (r5.length : Int)
    · exact ⟨3, by rw [if_pos h]; rfl, by omega, by omega⟩
    · exact ⟨r5.length, by rw [if_neg h], by omega, by omega⟩
  obtain ⟨c13, e13, x13, y13⟩ : ∃ c : Nat, (if 3 < (r13.length : Int) then 3 else (r13.length : Int)) = (c : Int) ∧ c ≤ 3 ∧ c ≤ r13.length := by
    by_cases h : 3 < (r13.length : Int)
    · exact ⟨3, by rw [if_pos h]; rfl, by omega, by omega⟩
    · exact ⟨r13.length, by rw [if_neg h], by omega, by omega⟩
  have g5 : r5.take (Int.toNat (if 3 < (r5.length : Int) then 3 else (r5.length : Int))) = r5.take c5 := by rw [e5]; rfl
  have g13 : r13.take (Int.toNat (if 3 < (r13.length : Int) then 3 else (r13.length : Int))) = r13.take c13 := by rw [e13]; rfl
  have ls : (r5.take c5).length ≤ 3 := by simp; omega
  have lt : (r13.take c13).length ≤ 3 := by simp; omega
  have hs : ∀ x ∈ r5.take c5, 1 ≤ x ∧ x ≤ 9 := fun x hx => b5 x (List.mem_of_mem_take hx)
  have ht : ∀ x ∈ r13.take c13, 1 ≤ x ∧ x ≤ 9 := fun x hx => b13 x (List.mem_of_mem_take hx)
  rw [chk_pos (by rw [e5]; omega), chk_pos (by rw [e13]; omega), g5, g13, chk_pos (by simp only [List.length_nil, maxLen]; omega), chk_pos (by simp only [List.nil_append, maxLen]; omega)]
  generalize r5.take c5 = s at *
  generalize r13.take c13 = t at *
  have fs : ∀ x ∈ s, fit_int x := fun x hx => by have := hs x hx; unfold fit_int; omega
  have ft : ∀ x ∈ t, fit_int x := fun x hx => by have := ht x hx; unfold fit_int; omega
  have ps : prd s ≤ 729 := prd_le s 3 hs ls
  have pt : prd t ≤ 729 := prd_le t 3 ht lt
  have hs1 : ∀ x ∈ s, 1 ≤ x := fun x hx => (hs x hx).1
  have ht1 : ∀ x ∈ t, 1 ≤ x := fun x hx => (ht x hx).1
  have qs := prd_pos hs1
  have qt := prd_pos ht1
  have hst : prd s * prd t ≤ 729 * 729 := Int.mul_le_mul ps pt (by omega) (by omega)
  have hst0 : 0 ≤ prd s * prd t := Int.mul_nonneg (by omega) (by omega)
  rw [cnt_int s fs, cnt_int t ft, cnt_int ([] ++ s ++ t) (fun x hx => by simp only [List.nil_append] at hx; exact (List.mem_append.1 hx).elim (fs x) (ft x)), cntS_prd hs1 (by omega), cntS_prd ht1 (by omega),
    cntS_prd (l := [] ++ s ++ t) (fun x hx => by simp only [List.nil_append] at hx; exact (List.mem_append.1 hx).elim (hs1 x) (ht1 x)) (by rw [List.nil_append, prd_append]; omega)]
  simp only [Option.bind_some, List.nil_append, prd_append, Bool.not_true, Bool.false_eq_true, if_false, decide_true]
  rw [w64 (by omega)]
  simp only [decide_true, Bool.not_true, Bool.false_eq_true, if_false, m_credencelaw10_RadixJoin_J1]
  obtain ⟨i, i0, i1, hi⟩ := modded (a := at_) qs (by omega) (fun i => m_credencelaw10_RadixJoin_J2 (l.length + m.length + 20) by_ r5 r13 (prd t, 0) i)
  rw [hi]
  unfold m_credencelaw10_RadixJoin_J2
  obtain ⟨j, j0, j1, hj⟩ := modded (a := by_) qt (by omega) (fun j => m_credencelaw10_RadixJoin_J3 (l.length + m.length + 20) r5 r13 (prd t, 0) i j)
  rw [hj]
  exact last _ r5 r13 s t i j g5 g13 ls lt hs ht i0 i1 j0 j1 (by omega)

theorem walk (a0 : Option Addr) (len0 cap0 : Nat) (z0 : List Int) (a1 : Option Addr) (len1 cap1 : Nat) (z1 : List Int) (a2 a3 : Int) (w : World) (w0 : IsRow .i64 8 w a0 len0 cap0 z0) (w1 : IsRow .i64 8 w a1 len1 cap1 z1) (w2 : (Lit.int .i64 a2).wf = true) (w3 : (Lit.int .i64 a3).wf = true) :
    Calls Try.prog 8 #[.slice a0 len0 cap0, .slice a1 len1 cap1, .int .i64 a2, .int .i64 a3] w fun e w' => e = .returned (.bool true) ∧ Below w.heap.size w w' := by
  obtain ⟨h1, h2, h3, h4⟩ := w0.sl
  obtain ⟨k1, k2, k3, k4⟩ := w1.sl
  generalize hp : z0.take len0 = p at *
  generalize hd : z1.take len1 = d at *
  subst h1 k1
  exact c_credencelaw10_RadixJoin _ (fun _ => 0) w a0 cap0 p h2 a1 cap1 d k2 a2 a3 true (eval p d a2 a3 (by omega) (by omega))


set_option maxRecDepth 100000 in
theorem lifted (os : Os) (started : os.Started) (H : Type) (enc : TypeId × Value → H) :
    ReturnsInHanded {} Try.checked os 8 .any (Rows.radixJoinSpec.pre6 enc Try.prog Try.f8 Rows.radixJoinRow.domain false) (Rows.radixJoinSpec.post enc Try.prog Try.f8 false true false false) := by
  refine returnsInHanded_of_change_sized (C := Try.checked) own started (by kernel_rfl) Try.func8
    (ChangeSpec.witness6 (enc := enc) (C := Try.checked) false ⟨#[], #[.slice none 0 0, .slice none 0 0, .int .i64 0, .int .i64 0], []⟩ 8 (by kernel_rfl) (by kernel_rfl) (by kernel_rfl) (by kernel_rfl)) ?_
  intro W base args ds gs before hval0 hW _ hsz0 _
  have hsz : (DataW.weightsEach Try.prog (Try.f8.params.toList ++ Rows.radixJoinSpec.plain.varTypes Try.prog) (ds ++ gs)).all (· ≤ reachBytes) = true := hsz0
  clear hsz0
  have hval : ∀ (j : Nat) t v, Try.f8.params[j]? = some t → args[j]? = some v → Value.okWide Try.prog W .any base t v := hval0
  have hW' := hW
  obtain ⟨p, q, hA0, hV, rfl, hfz, hnd⟩ := hW
  have hA : DataW.TrodAll enc Try.prog W 0 (fun _ => true) true Try.f8.params.toList args.toList ds p := hA0
  rw [Try.params8] at hA hval hsz
  obtain ⟨v0, vs0, d0, ds0, p0, q0, hargs, rfl, rfl, h0, r0⟩ := trodAll_cons hA
  obtain ⟨v1, vs1, d1, ds1, p1, q1, rfl, rfl, rfl, h1, r1⟩ := trodAll_cons r0
  obtain ⟨v2, vs2, d2, ds2, p2, q2, rfl, rfl, rfl, h2, r2⟩ := trodAll_cons r1
  obtain ⟨v3, vs3, d3, ds3, p3, q3, rfl, rfl, rfl, h3, r3⟩ := trodAll_cons r2
  obtain ⟨rfl, rfl, rfl⟩ := trodAll_nil r3
  obtain rfl : args = #[v0, v1, v2, v3] := by cases args; simp_all
  obtain ⟨rfl, rfl⟩ := trodVars_none hV
  obtain ⟨a0, len0, cap0, rfl⟩ := okWide_slice Try.underlying22 (hval 0 22 v0 rfl rfl)
  have k0 := h0
  have lt0 : ∀ x ∈ p0, x.block < W.heap.size := by obtain ⟨m, hm⟩ := k0; exact DataW.trod_lt m _ _ _ hm
  obtain ⟨z0, w0⟩ : ∃ zs, IsRow .i64 8 W a0 len0 cap0 zs := by
    obtain ⟨fuel, hf⟩ := h0
    rcases open_ints Try.underlying22 Try.underlying3 (by kernel_rfl) hf with ⟨hcs, _⟩ | ⟨x, l, c, zs, hcs, _, hl, hm, hz, hx, hcell, hwz⟩
    · simp [Value.cells] at hcs
      obtain ⟨rfl, rfl, rfl⟩ := hcs
      exact ⟨[], .inl ⟨rfl, rfl, rfl, rfl⟩⟩
    · simp [Value.cells] at hcs
      obtain ⟨rfl, rfl, rfl⟩ := hcs
      simp only [Prod.mk.injEq] at hx
      have hsize := sized_slice hsz (j := 0) (t := 22) (e := 3) rfl (congrArg some hx.1) Try.underlying22
      rw [show Try.prog.bytesOf 3 = 8 from rfl] at hsize
      have hz' : zs.length = cap0 := by simpa using hz
      simp only [lits, List.length_map, List.length_take, List.length_drop, reachBytes] at hsize
      exact ⟨zs, .inr ⟨_, rfl, hl, hm, by omega, hz', hcell, hwz⟩⟩
  obtain ⟨a1, len1, cap1, rfl⟩ := okWide_slice Try.underlying22 (hval 1 22 v1 rfl rfl)
  have k1 := h1
  have lt1 : ∀ x ∈ p1, x.block < W.heap.size := by obtain ⟨m, hm⟩ := k1; exact DataW.trod_lt m _ _ _ hm
  obtain ⟨z1, w1⟩ : ∃ zs, IsRow .i64 8 W a1 len1 cap1 zs := by
    obtain ⟨fuel, hf⟩ := h1
    rcases open_ints Try.underlying22 Try.underlying3 (by kernel_rfl) hf with ⟨hcs, _⟩ | ⟨x, l, c, zs, hcs, _, hl, hm, hz, hx, hcell, hwz⟩
    · simp [Value.cells] at hcs
      obtain ⟨rfl, rfl, rfl⟩ := hcs
      exact ⟨[], .inl ⟨rfl, rfl, rfl, rfl⟩⟩
    · simp [Value.cells] at hcs
      obtain ⟨rfl, rfl, rfl⟩ := hcs
      simp only [Prod.mk.injEq] at hx
      have hsize := sized_slice hsz (j := 1) (t := 22) (e := 3) rfl (congrArg some hx.1) Try.underlying22
      rw [show Try.prog.bytesOf 3 = 8 from rfl] at hsize
      have hz' : zs.length = cap1 := by simpa using hz
      simp only [lits, List.length_map, List.length_take, List.length_drop, reachBytes] at hsize
      exact ⟨zs, .inr ⟨_, rfl, hl, hm, by omega, hz', hcell, hwz⟩⟩
  obtain ⟨a2, rfl, rfl, rfl, w2⟩ := open_int Try.underlying3 (hval 2 3 v2 rfl rfl) h2
  obtain ⟨a3, rfl, rfl, rfl, w3⟩ := open_int Try.underlying3 (hval 3 3 v3 rfl rfl) h3
  clear hA0 hval0
  refine (walk a0 len0 cap0 z0 a1 len1 cap1 z1 a2 a3 W w0 w1 w2 w3).mono fun e W' ⟨he, bel⟩ => ?_
  subst he
  exact ⟨_, rfl, _, _, _, [], _, [], hW', trodAll_mk1 (shut_bool Try.underlying4 _), (trodAll_cons_mk (Below.trod laidOut (by kernel_rfl) (of_decide_eq_true (by kernel_rfl)) k0 bel lt0) (trodAll_cons_mk (Below.trod laidOut (by kernel_rfl) (of_decide_eq_true (by kernel_rfl)) k1 bel lt1) (trodAll_cons_mk (shut_int Try.underlying3 w2) (trodAll_cons_mk (shut_int Try.underlying3 w3) trodAll_mk0)))), rfl, bel.frame _, fun h => by cases h⟩

theorem over : Rows.radixJoinRow.holds Try.pinned (OpenSpec.ofChange Rows.radixJoinSpec) :=
  OpenClaim.holds_of_wide 8 Try.f8 rfl rfl rfl rfl rfl rfl rfl ⟨rfl, rfl, rfl, rfl, rfl⟩ rfl rfl rfl rfl rfl (by kernel_rfl) Try.func8 (by kernel_rfl)
    (of_decide_eq_true (by kernel_rfl)) (by unfold Func.isWrapper; first | (rw [if_pos (by decide +kernel)]; kernel_rfl) | (rw [if_neg (by decide +kernel)]; exact ⟨rfl, rfl⟩))
    (fun os started H enc _ => lifted os started H enc)

theorem proved : Rows.RadixJoinSaid := over
#print axioms proved
end Go.Proofs.Ytgfaoflipkmpcaa.radixJoin
