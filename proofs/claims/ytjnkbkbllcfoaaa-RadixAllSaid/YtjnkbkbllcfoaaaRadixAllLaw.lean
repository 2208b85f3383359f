/-
  'RadixAll' (credence/credencelaw10.RadixAll): whatever the input, the call returns true and the arguments read afterwards as before. No conditions.
-/
import Derived.Test.YtjnkbkbllcfoaaaRows
import Derived.Test.YtjnkbkbllcfoaaaRadixAllF5
import Derived.WalkKit
import Derived.ProofKit
import Derived.OpenShut
import Derived.ShutString
import Derived.ChangeOld
import Derived.Below
import Derived.SizedLaws
namespace Go.Proofs.Ytjnkbkbllcfoaaa.radixAll
open Go Go.ChangeShapes Go.WideShapes Go.ChangeAt Go.RowKit
open Go.ChangeMaps (open_string shut_string)
set_option linter.unusedVariables false

theorem own : ownKnob Try.prog.godebug = none := by kernel_rfl
theorem laidOut : laidOutB Try.prog = true := by kernel_rfl

/-- What is told of a slice of integers that came in. -/
def IsRow (k : IntKind) (by_ : Nat) (w : World) (a : Option Addr) (len cap : Nat) (zs : List Int) : Prop :=
  (a = none ∧ len = 0 ∧ cap = 0 ∧ zs = []) ∨
  ∃ x, a = some x ∧ len ≤ cap ∧ cap ≤ maxLen ∧ len * by_ ≤ 140737488351232 ∧ zs.length = cap ∧ (∀ i, i < zs.length → w.cell? (x.add i) = some (.int k (zs.getD i 0))) ∧ ∀ n ∈ zs, (Lit.int k n).wf = true
theorem IsRow.sl {k : IntKind} {by_ : Nat} {w : World} {a : Option Addr} {len cap : Nat} {zs : List Int} (h : IsRow k by_ w a len cap zs) :
    len = (zs.take len).length ∧ Sl (Rep.int k) (fun _ => 0) w a cap (zs.take len) ∧ (zs.take len).length * by_ ≤ 140737488351232 ∧ ∀ n ∈ zs.take len, (Lit.int k n).wf = true := by
  rcases h with ⟨rfl, rfl, rfl, rfl⟩ | ⟨x, rfl, h1, h2, h3, h4, h5, h6⟩
  · exact ⟨rfl, .nil, by simp, by simp⟩
  · have hl : (zs.take len).length = len := by rw [List.length_take]; omega
    refine ⟨hl.symm, ints_sl (by omega) (by omega) fun i hi => ?_, by rw [hl]; exact h3, fun n hn => h6 n (List.mem_of_mem_take hn)⟩
    rw [hl] at hi
    rw [h5 i (by omega)]
    congr 2
    rw [List.getD_eq_getElem?_getD, List.getD_eq_getElem?_getD, List.getElem?_take, if_pos hi]

theorem i64_fit {n : Int} (h : (Lit.int .i64 n).wf = true) : fit_int n := by
  have h2 : IntKind.i64.min ≤ n ∧ n ≤ 9223372036854775807 := by simpa [Lit.wf] using h
  rw [show IntKind.i64.min = -9223372036854775808 by decide] at h2
  exact h2

theorem narrow_L1 (N : Nat) (l : List Int) (hlen : l.length ≤ 17592186044416) : ∀ (fuel k : Nat), k ≤ l.length → l.length - k < fuel →
    m_credencelaw10_narrow_L1 N l fuel ((l.map IntKind.i32.wrap).take k) (k : Int) = some (l.map IntKind.i32.wrap) := by
  intro fuel
  induction fuel with
  | zero => intro k _ h; omega
  | succ fuel ih =>
    intro k hk hfu
    rw [m_credencelaw10_narrow_L1.eq_2]
    by_cases hlt : k < l.length
    · rw [if_pos (decide_eq_true (by omega)), at_get hlt]
      simp only [Option.bind_some]
      rw [chk_pos (by simp only [List.length_take, List.length_cons, List.length_nil, List.length_map, maxLen]; omega), wrap_up (by omega)]
      have ht : (l.map IntKind.i32.wrap).take k ++ [IntKind.i32.wrap (l.getD k 0)] = (l.map IntKind.i32.wrap).take (k + 1) := by
        rw [List.take_add_one]; simp [hlt]
      rw [ht]; exact ih (k + 1) (by omega) (by omega)
    · rw [if_neg (by simp; omega), List.take_of_length_le (by simp; omega)]
theorem tiny_L1 (N : Nat) (l : List Int) (hlen : l.length ≤ 17592186044416) : ∀ (fuel k : Nat), k ≤ l.length → l.length - k < fuel →
    m_credencelaw10_tiny_L1 N l fuel ((l.map IntKind.u16.wrap).take k) (k : Int) = some (l.map IntKind.u16.wrap) := by
  intro fuel
  induction fuel with
  | zero => intro k _ h; omega
  | succ fuel ih =>
    intro k hk hfu
    rw [m_credencelaw10_tiny_L1.eq_2]
    by_cases hlt : k < l.length
    · rw [if_pos (decide_eq_true (by omega)), at_get hlt]
      simp only [Option.bind_some]
      rw [chk_pos (by simp only [List.length_take, List.length_cons, List.length_nil, List.length_map, maxLen]; omega), wrap_up (by omega)]
      have ht : (l.map IntKind.u16.wrap).take k ++ [IntKind.u16.wrap (l.getD k 0)] = (l.map IntKind.u16.wrap).take (k + 1) := by
        rw [List.take_add_one]; simp [hlt]
      rw [ht]; exact ih (k + 1) (by omega) (by omega)
    · rw [if_neg (by simp; omega), List.take_of_length_le (by simp; omega)]
theorem narrow (N : Nat) (l : List Int) (hN : l.length < N) (hlen : l.length ≤ 17592186044416) : m_credencelaw10_narrow N l = some (l.map IntKind.i32.wrap) := by
  have := narrow_L1 N l hlen N 0 (by omega) (by omega)
  unfold m_credencelaw10_narrow
  simpa using this
theorem tiny (N : Nat) (l : List Int) (hN : l.length < N) (hlen : l.length ≤ 17592186044416) : m_credencelaw10_tiny N l = some (l.map IntKind.u16.wrap) := by
  have := tiny_L1 N l hlen N 0 (by omega) (by omega)
  unfold m_credencelaw10_tiny
  simpa using this
theorem fit32 (l : List Int) : ∀ x ∈ l.map IntKind.i32.wrap, fit_int32 x := by
  intro x hx
  obtain ⟨y, _, rfl⟩ := List.mem_map.1 hx
  refine ⟨?_, w64 ?_⟩ <;> simp only [IntKind.wrap_i32] <;> omega
theorem fit16 (l : List Int) : ∀ x ∈ l.map IntKind.u16.wrap, fit_credencelaw10_Small x := by
  intro x hx
  obtain ⟨y, _, rfl⟩ := List.mem_map.1 hx
  refine ⟨?_, w64 ?_⟩ <;> simp only [IntKind.wrap_u16] <;> omega

theorem eval (N : Nat) (p : List Int) (left : Int) (hN : p.length + 20 < N) (hN2 : 4294967296 ≤ N) (hp : p.length ≤ 17592186043904) (hfp : ∀ x ∈ p, fit_int x) :
    m_credencelaw10_RadixAll N p left = some true := by
  unfold m_credencelaw10_RadixAll
  rw [walked_int N left p hfp (by omega) (by omega) hp]
  simp only [Option.bind_some, if_true]
  rw [narrow _ p (by omega) (by omega)]
  simp only [Option.bind_some]
  rw [walked_int32 N left _ (fit32 p) (by rw [List.length_map]; omega) (by omega) (by simpa using hp)]
  simp only [Option.bind_some, if_true]
  rw [tiny _ p (by omega) (by omega)]
  simp only [Option.bind_some]
  rw [walked_credencelaw10_Small N left _ (fit16 p) (by rw [List.length_map]; omega) (by omega) (by simpa using hp)]
  rfl

theorem walk (a0 : Option Addr) (len0 cap0 : Nat) (z0 : List Int) (a1 : Int) (w : World) (w0 : IsRow .i64 8 w a0 len0 cap0 z0) (w1 : (Lit.int .i64 a1).wf = true) :
    Calls Try.prog 3 #[.slice a0 len0 cap0, .int .i64 a1] w fun e w' => e = .returned (.bool true) ∧ Below w.heap.size w w' := by
  obtain ⟨h1, h2, h3, h4⟩ := w0.sl
  generalize hp : z0.take len0 = p at *
  subst h1
  obtain ⟨N, hN, hN2⟩ : ∃ N, p.length + 20 < N ∧ 4294967296 ≤ N := ⟨_, Nat.lt_succ_of_le (Nat.le_max_left _ _), Nat.le_succ_of_le (Nat.le_max_right (p.length + 20) 4294967296)⟩
  exact c_credencelaw10_RadixAll N (fun _ => 0) w a0 cap0 p a1 h2 true (eval N p a1 hN hN2 (by omega) (fun x hx => i64_fit (h4 x hx)))

set_option maxRecDepth 100000 in
theorem lifted (os : Os) (started : os.Started) (H : Type) (enc : TypeId × Value → H) :
    ReturnsInHanded {} Try.checked os 3 .any (Rows.radixAllSpec.pre6 enc Try.prog Try.f3 Rows.radixAllRow.domain false) (Rows.radixAllSpec.post enc Try.prog Try.f3 false true false false) := by
  refine returnsInHanded_of_change_sized (C := Try.checked) own started (by kernel_rfl) Try.func3
    (ChangeSpec.witness6 (enc := enc) (C := Try.checked) false ⟨#[], #[.slice none 0 0, .int .i64 0], []⟩ 8 (by kernel_rfl) (by kernel_rfl) (by kernel_rfl) (by kernel_rfl)) ?_
  intro W base args ds gs before hval0 hW _ hsz0 _
  have hsz : (DataW.weightsEach Try.prog (Try.f3.params.toList ++ Rows.radixAllSpec.plain.varTypes Try.prog) (ds ++ gs)).all (· ≤ reachBytes) = true := hsz0
  clear hsz0
  have hval : ∀ (j : Nat) t v, Try.f3.params[j]? = some t → args[j]? = some v → Value.okWide Try.prog W .any base t v := hval0
  have hW' := hW
  obtain ⟨p, q, hA0, hV, rfl, hfz, hnd⟩ := hW
  have hA : DataW.TrodAll enc Try.prog W 0 (fun _ => true) true Try.f3.params.toList args.toList ds p := hA0
  rw [Try.params3] at hA hval hsz
  obtain ⟨v0, vs0, d0, ds0, p0, q0, hargs, rfl, rfl, h0, r0⟩ := trodAll_cons hA
  obtain ⟨v1, vs1, d1, ds1, p1, q1, rfl, rfl, rfl, h1, r1⟩ := trodAll_cons r0
  obtain ⟨rfl, rfl, rfl⟩ := trodAll_nil r1
  obtain rfl : args = #[v0, v1] := by cases args; simp_all
  obtain ⟨rfl, rfl⟩ := trodVars_none hV
  obtain ⟨a0, len0, cap0, rfl⟩ := okWide_slice Try.underlying22 (hval 0 22 v0 rfl rfl)
  have k0 := h0
  have lt0 : ∀ x ∈ p0, x.block < W.heap.size := by obtain ⟨m, hm⟩ := k0; exact DataW.trod_lt m _ _ _ hm
  obtain ⟨z0, w0⟩ : ∃ zs, IsRow .i64 8 W a0 len0 cap0 zs := by
    obtain ⟨fuel, hf⟩ := h0
    rcases open_ints Try.underlying22 Try.underlying3 (by kernel_rfl) hf with ⟨hcs, _⟩ | ⟨x, l, c, zs, hcs, _, hl, hm, hz, hx, hcell, hwz⟩
    · simp [Value.cells] at hcs
      obtain ⟨rfl, rfl, rfl⟩ := hcs
      exact ⟨[], .inl ⟨rfl, rfl, rfl, rfl⟩⟩
    · simp [Value.cells] at hcs
      obtain ⟨rfl, rfl, rfl⟩ := hcs
      simp only [Prod.mk.injEq] at hx
      have hsize := sized_slice hsz (j := 0) (t := 22) (e := 3) rfl (congrArg some hx.1) Try.underlying22
      rw [show Try.prog.bytesOf 3 = 8 from rfl] at hsize
      have hz' : zs.length = cap0 := by simpa using hz
      simp only [lits, List.length_map, List.length_take, List.length_drop, reachBytes] at hsize
      exact ⟨zs, .inr ⟨_, rfl, hl, hm, by omega, hz', hcell, hwz⟩⟩
  obtain ⟨a1, rfl, rfl, rfl, w1⟩ := open_int Try.underlying3 (hval 1 3 v1 rfl rfl) h1
  clear hA0 hval0
  refine (walk a0 len0 cap0 z0 a1 W w0 w1).mono fun e W' ⟨he, bel⟩ => ?_
  subst he
  exact ⟨_, rfl, _, _, _, [], _, [], hW', trodAll_mk1 (shut_bool Try.underlying4 _), (trodAll_cons_mk (Below.trod laidOut (by kernel_rfl) (of_decide_eq_true (by kernel_rfl)) k0 bel lt0) (trodAll_cons_mk (shut_int Try.underlying3 w1) trodAll_mk0)), rfl, bel.frame _, fun h => by cases h⟩

theorem over : Rows.radixAllRow.holds Try.pinned (OpenSpec.ofChange Rows.radixAllSpec) :=
  OpenClaim.holds_of_wide 3 Try.f3 rfl rfl rfl rfl rfl rfl rfl ⟨rfl, rfl, rfl, rfl, rfl⟩ rfl rfl rfl rfl rfl (by kernel_rfl) Try.func3 (by kernel_rfl)
    (of_decide_eq_true (by kernel_rfl)) (by unfold Func.isWrapper; first | (rw [if_pos (by decide +kernel)]; kernel_rfl) | (rw [if_neg (by decide +kernel)]; exact ⟨rfl, rfl⟩))
    (fun os started H enc _ => lifted os started H enc)

theorem proved : Rows.RadixAllSaid := over
#print axioms proved
end Go.Proofs.Ytjnkbkbllcfoaaa.radixAll
