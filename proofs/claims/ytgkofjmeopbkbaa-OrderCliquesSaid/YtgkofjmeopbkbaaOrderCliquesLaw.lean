/-
  'OrderCliques' (credence/credencelaw18.OrderCliques): whatever the input, the call returns true and the arguments read afterwards as before. No conditions.
-/
import Derived.Test.YtgkofjmeopbkbaaRows
import Derived.Test.YtgkofjmeopbkbaaOrderCliquesF5
import Derived.WalkKit
import Derived.ProofKit
import Derived.OpenShut
import Derived.ShutString
import Derived.ChangeOld
import Derived.Below
import Derived.SizedLaws
namespace Go.Proofs.Ytgkofjmeopbkbaa.orderCliques
open Go Go.ChangeShapes Go.WideShapes Go.ChangeAt Go.RowKit
open Go.ChangeMaps (open_string shut_string)
set_option linter.unusedVariables false

theorem own : ownKnob Try.prog.godebug = none := by kernel_rfl
theorem laidOut : laidOutB Try.prog = true := by kernel_rfl

/-- What is told of a slice of integers that came in. -/
def IsRow (k : IntKind) (by_ : Nat) (w : World) (a : Option Addr) (len cap : Nat) (zs : List Int) : Prop :=
  (a = none ∧ len = 0 ∧ cap = 0 ∧ zs = []) ∨
  ∃ x, a = some x ∧ len ≤ cap ∧ cap ≤ maxLen ∧ len * by_ ≤ 140737488351232 ∧ zs.length = cap ∧ (∀ i, i < zs.length → w.cell? (x.add i) = some (.int k (zs.getD i 0))) ∧ ∀ n ∈ zs, (Lit.int k n).wf = true
theorem IsRow.sl {k : IntKind} {by_ : Nat} {w : World} {a : Option Addr} {len cap : Nat} {zs : List Int} (h : IsRow k by_ w a len cap zs) :
    len = (zs.take len).length ∧ Sl (Rep.int k) (fun _ => 0) w a cap (zs.take len) ∧ (zs.take len).length * by_ ≤ 140737488351232 ∧ ∀ n ∈ zs.take len, (Lit.int k n).wf = true := by
  rcases h with ⟨rfl, rfl, rfl, rfl⟩ | ⟨x, rfl, h1, h2, h3, h4, h5, h6⟩
  · exact ⟨rfl, .nil, by simp, by simp⟩
  · have hl : (zs.take len).length = len := by rw [List.length_take]; omega
    refine ⟨hl.symm, ints_sl (by omega) (by omega) fun i hi => ?_, by rw [hl]; exact h3, fun n hn => h6 n (List.mem_of_mem_take hn)⟩
    rw [hl] at hi
    rw [h5 i (by omega)]
    congr 2
    rw [List.getD_eq_getElem?_getD, List.getD_eq_getElem?_getD, List.getElem?_take, if_pos hi]

theorem arr2 {α : Type} {a : Array α} (h : a.size = 2) : ∃ c0 c1, a = #[c0, c1] := by
  obtain ⟨l⟩ := a
  match l, h with
  | [c0, c1], _ => exact ⟨c0, c1, rfl⟩
theorem lst2 {α : Type} {l : List α} (h : l.length = 2) : ∃ c0 c1, l = [c0, c1] := by
  match l, h with
  | [c0, c1], _ => exact ⟨c0, c1, rfl⟩

theorem walk (f0 : Int) (a0 : Option Addr) (len0 cap0 : Nat) (z0 : List Int) (a1 : Option Addr) (len1 cap1 : Nat) (z1 : List Int) (w : World) (w0 : (Lit.int .i64 f0).wf = true) (w1 : IsRow .i64 8 w a0 len0 cap0 z0) (w2 : IsRow .i64 8 w a1 len1 cap1 z1) :
    Calls Try.prog 9 #[.agg #[.int .i64 f0, .slice a0 len0 cap0], .slice a1 len1 cap1] w fun e w' => e = .returned (.bool true) ∧ Below w.heap.size w w' := by
  obtain ⟨h1, h2, h3, h4⟩ := w1.sl
  obtain ⟨k1, k2, k3, k4⟩ := w2.sl
  generalize hp : z0.take len0 = p at *
  generalize hq : z1.take len1 = q at *
  subst h1
  subst k1
  exact c_l18_OrderCliques 1000000000000000 (fun _ => 0) w a0 cap0 (f0, p) a1 cap1 q h2 k2 true (OrderCliques_true f0 p q (by omega) (by omega) (by decide) (by omega))

set_option maxRecDepth 100000 in
set_option maxHeartbeats 2000000 in
theorem lifted (os : Os) (started : os.Started) (H : Type) (enc : TypeId × Value → H) :
    ReturnsInHanded {} Try.checked os 9 .any (Rows.orderCliquesSpec.pre6 enc Try.prog Try.f9 Rows.orderCliquesRow.domain false) (Rows.orderCliquesSpec.post enc Try.prog Try.f9 false true false false) := by
  refine returnsInHanded_of_change_sized (C := Try.checked) own started (by kernel_rfl) Try.func9
    (ChangeSpec.witness6 (enc := enc) (C := Try.checked) false ⟨#[], #[.agg #[.int .i64 0, .slice none 0 0], .slice none 0 0], []⟩ 8 (by kernel_rfl) (by kernel_rfl) (by kernel_rfl) (by kernel_rfl)) ?_
  intro W base args ds gs before hval0 hW _ hsz0 _
  have hsz : (DataW.weightsEach Try.prog (Try.f9.params.toList ++ Rows.orderCliquesSpec.plain.varTypes Try.prog) (ds ++ gs)).all (· ≤ reachBytes) = true := hsz0
  clear hsz0
  have hval : ∀ (j : Nat) t v, Try.f9.params[j]? = some t → args[j]? = some v → Value.okWide Try.prog W .any base t v := hval0
  have hW' := hW
  obtain ⟨p, q, hA0, hV, rfl, hfz, hnd⟩ := hW
  have hA : DataW.TrodAll enc Try.prog W 0 (fun _ => true) true Try.f9.params.toList args.toList ds p := hA0
  rw [Try.params9] at hA hval hsz
  obtain ⟨v0, vs0, d0, ds0, p0, q0, hargs, rfl, rfl, h0, r0⟩ := trodAll_cons hA
  obtain ⟨v1, vs1, d1, ds1, p1, q1, rfl, rfl, rfl, h1, r1⟩ := trodAll_cons r0
  obtain ⟨rfl, rfl, rfl⟩ := trodAll_nil r1
  obtain rfl : args = #[v0, v1] := by cases args; simp_all
  obtain ⟨rfl, rfl⟩ := trodVars_none hV
  obtain ⟨cs0, rfl, cz0⟩ := okWide_struct Try.underlying59 (hval 0 59 v0 rfl rfl)
  have k0 := h0
  have lt0 : ∀ x ∈ p0, x.block < W.heap.size := by obtain ⟨m, hm⟩ := k0; exact DataW.trod_lt m _ _ _ hm
  obtain ⟨f0_0, a0_1, len0_1, cap0_1, z0_1, rfl, w0_0, w0_1⟩ : ∃ (f0_0 : Int) (a0_1 : Option Addr) (len0_1 cap0_1 : Nat) (z0_1 : List Int), cs0 = #[.int .i64 f0_0, .slice a0_1 len0_1 cap0_1] ∧ (Lit.int .i64 f0_0).wf = true ∧ IsRow .i64 8 W a0_1 len0_1 cap0_1 z0_1 := by
    obtain ⟨fuel, hf⟩ := h0
    obtain ⟨ys, m, _, hx, _, hl, hfld⟩ := DataW.trod_struct Try.underlying59 hf
    obtain ⟨c0, c1, rfl⟩ := arr2 (cz0.trans (show Try.prog.cellsOf 59 = 2 by kernel_rfl))
    obtain ⟨y0, y1, rfl⟩ := lst2 (hl.trans (show _ = 2 by rfl))
    have hy0 : DataW.trod enc Try.prog W 0 (fun _ => true) true m 3 (((Value.agg #[c0, c1]).cells.toList.drop 0).take (Try.prog.cellsOf 3)) = some y0 := hfld 0 _ rfl
    rw [show Try.prog.cellsOf 3 = 1 by kernel_rfl] at hy0
    replace hy0 : DataW.trod enc Try.prog W 0 (fun _ => true) true m 3 [c0] = some y0 := hy0
    have hy1 : DataW.trod enc Try.prog W 0 (fun _ => true) true m 22 (((Value.agg #[c0, c1]).cells.toList.drop 1).take (Try.prog.cellsOf 22)) = some y1 := hfld 1 _ rfl
    rw [show Try.prog.cellsOf 22 = 1 by kernel_rfl] at hy1
    replace hy1 : DataW.trod enc Try.prog W 0 (fun _ => true) true m 22 [c1] = some y1 := hy1
    simp only [Prod.mk.injEq, List.map_cons, List.map_nil] at hx
    have hin : (DataW.weightsEach Try.prog [3, 22] [y0.1, y1.1]).all (· ≤ reachBytes) = true := by
      refine List.all_eq_true.2 fun n hn => List.all_eq_true.1 hsz _ (DataW.weights_mem_each (j := 0) rfl (congrArg some hx.1) n ?_)
      rw [DataW.weights, Try.underlying59]; exact hn
    obtain ⟨n0, e0, x0, u0⟩ := DataW.trod_int Try.underlying3 hy0
    obtain rfl := (List.cons.inj e0).1
    obtain ⟨aa1, ll1, pp1, zz1, e1, u1⟩ : ∃ a len cap zs, c1 = .slice a len cap ∧ IsRow .i64 8 W a len cap zs := by
      rcases open_ints Try.underlying22 Try.underlying3 (by kernel_rfl) hy1 with ⟨hcs, _⟩ | ⟨x, l, c, zs, hcs, _, hl, hm, hz, hx2, hcell, hwz⟩
      · exact ⟨none, 0, 0, [], (List.cons.inj hcs).1, .inl ⟨rfl, rfl, rfl, rfl⟩⟩
      · have hsize := sized_slice hin (j := 1) (t := 22) (e := 3) rfl (congrArg (fun y : DataW H × List MemPlace => some y.1) hx2) Try.underlying22
        rw [show Try.prog.bytesOf 3 = 8 from rfl] at hsize
        have hz' : zs.length = c := by simpa using hz
        simp only [lits, List.length_map, List.length_take, List.length_drop, reachBytes] at hsize
        exact ⟨_, l, c, zs, (List.cons.inj hcs).1, .inr ⟨_, rfl, hl, hm, by omega, hz', hcell, hwz⟩⟩
    subst e1
    exact ⟨n0, aa1, ll1, pp1, zz1, rfl, u0, u1⟩
  obtain ⟨a1, len1, cap1, rfl⟩ := okWide_slice Try.underlying22 (hval 1 22 v1 rfl rfl)
  have k1 := h1
  have lt1 : ∀ x ∈ p1, x.block < W.heap.size := by obtain ⟨m, hm⟩ := k1; exact DataW.trod_lt m _ _ _ hm
  obtain ⟨z1, w1⟩ : ∃ zs, IsRow .i64 8 W a1 len1 cap1 zs := by
    obtain ⟨fuel, hf⟩ := h1
    rcases open_ints Try.underlying22 Try.underlying3 (by kernel_rfl) hf with ⟨hcs, _⟩ | ⟨x, l, c, zs, hcs, _, hl, hm, hz, hx, hcell, hwz⟩
    · simp [Value.cells] at hcs
      obtain ⟨rfl, rfl, rfl⟩ := hcs
      exact ⟨[], .inl ⟨rfl, rfl, rfl, rfl⟩⟩
    · simp [Value.cells] at hcs
      obtain ⟨rfl, rfl, rfl⟩ := hcs
      simp only [Prod.mk.injEq] at hx
      have hsize := sized_slice hsz (j := 1) (t := 22) (e := 3) rfl (congrArg some hx.1) Try.underlying22
      rw [show Try.prog.bytesOf 3 = 8 from rfl] at hsize
      have hz' : zs.length = cap1 := by simpa using hz
      simp only [lits, List.length_map, List.length_take, List.length_drop, reachBytes] at hsize
      exact ⟨zs, .inr ⟨_, rfl, hl, hm, by omega, hz', hcell, hwz⟩⟩
  clear hA0 hval0
  refine (walk f0_0 a0_1 len0_1 cap0_1 z0_1 a1 len1 cap1 z1 W w0_0 w0_1 w1).mono fun e W' ⟨he, bel⟩ => ?_
  subst he
  exact ⟨_, rfl, _, _, _, [], _, [], hW', trodAll_mk1 (shut_bool Try.underlying4 _), (trodAll_cons_mk (Below.trod laidOut (by kernel_rfl) (of_decide_eq_true (by kernel_rfl)) k0 bel lt0) (trodAll_cons_mk (Below.trod laidOut (by kernel_rfl) (of_decide_eq_true (by kernel_rfl)) k1 bel lt1) trodAll_mk0)), rfl, bel.frame _, fun h => by cases h⟩

theorem over : Rows.orderCliquesRow.holds Try.pinned (OpenSpec.ofChange Rows.orderCliquesSpec) :=
  OpenClaim.holds_of_wide 9 Try.f9 rfl rfl rfl rfl rfl rfl rfl ⟨rfl, rfl, rfl, rfl, rfl⟩ rfl rfl rfl rfl rfl (by kernel_rfl) Try.func9 (by kernel_rfl)
    (of_decide_eq_true (by kernel_rfl)) (by unfold Func.isWrapper; first | (rw [if_pos (by decide +kernel)]; kernel_rfl) | (rw [if_neg (by decide +kernel)]; exact ⟨rfl, rfl⟩))
    (fun os started H enc _ => lifted os started H enc)

theorem proved : Rows.OrderCliquesSaid := over
#print axioms proved
end Go.Proofs.Ytgkofjmeopbkbaa.orderCliques
