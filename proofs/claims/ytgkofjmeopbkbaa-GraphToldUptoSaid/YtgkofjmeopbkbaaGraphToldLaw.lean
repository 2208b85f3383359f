/-
  'GraphTold' (credence/credencelaw15.GraphTold), where what it reads is of bulk at most 1048576: the call returns true and the arguments read afterwards as before.
-/
import Derived.Test.YtgkofjmeopbkbaaRows
import Derived.Test.YtgkofjmeopbkbaaGraphToldBBulk
import Derived.Test.YtgkofjmeopbkbaaGraphToldF3
import Derived.WalkKit
import Derived.ProofKit
import Derived.OpenShut
import Derived.ShutString
import Derived.ChangeOld
import Derived.Below
import Derived.JoinedCond
namespace Go.Proofs.Ytgkofjmeopbkbaa.graphTold
open Go Go.ChangeShapes Go.WideShapes Go.ChangeAt Go.RowKit
open Go.ChangeMaps (open_string shut_string)
set_option linter.unusedVariables false

theorem own : ownKnob Try.prog.godebug = none := by kernel_rfl
theorem laidOut : laidOutB Try.prog = true := by kernel_rfl

theorem ones (l : List Int) : bkS bk1 l = l.length + 1 := by
  simp only [bkS]
  congr 1
  induction l with
  | nil => rfl
  | cons x l ih => simp only [List.map_cons, List.sum_cons, ih, bk1, List.length_cons]; omega
theorem walk (a0 : Int) (y1 : List Int) (a1 : Option Addr) (cap1 : Nat) (y2 : List Int) (a2 : Option Addr) (cap2 : Nat) (w : World) (hb : bkS bk1 y1 + bkS bk1 y2 ≤ 1048576) (_ : (Lit.int .i64 a0).wf = true) (_ : all' (wfI .i64) y1) (s1 : Sl (Rep.int .i64) (fun _ => 0) w a1 cap1 y1)
    (_ : all' (wfI .i64) y2) (s2 : Sl (Rep.int .i64) (fun _ => 0) w a2 cap2 y2) :
    Calls Try.prog 7 #[.int .i64 a0, .slice a1 y1.length cap1, .slice a2 y2.length cap2] w fun e w' => e = .returned (.bool true) ∧ Below w.heap.size w w' := by
  have h1 := ones y1
  have h2 := ones y2
  exact c_l15_GraphTold 4294967296 (fun _ => 0) w a0 a1 cap1 y1 a2 cap2 y2 s1 s2 true (GraphTold_true 4294967296 (by decide) a0 y1 y2 (by omega) (by omega))

set_option maxRecDepth 100000 in
theorem lifted (os : Os) (started : os.Started) (H : Type) (enc : TypeId × Value → H) (F : Stop.Interp) :
    ReturnsInHanded {} Try.checked os 7 .any ((Rows.OpenSpec.upto Rows.graphToldSpec).pre6 enc Try.prog Try.f7 Rows.graphToldUptoRow.domain false) (((Rows.OpenSpec.upto Rows.graphToldSpec).at F).post enc Try.prog Try.f7 false true false false) := by
  refine returnsInHanded_of_cond (C := Try.checked) (s := Rows.OpenSpec.upto Rows.graphToldSpec) (k := Rows.uptoSmall) rfl own started (by kernel_rfl) Try.func7
    (OpenSpec.witness (enc := enc) (C := Try.checked) (s := Rows.OpenSpec.upto Rows.graphToldSpec) (k := Rows.uptoSmall) rfl false ⟨#[], #[.int .i64 0, .slice none 0 0, .slice none 0 0], []⟩ 8 (by kernel_rfl) (by kernel_rfl) (by kernel_rfl)
      (x := ([.lit (.int .i64 0), .nil, .nil], [], [])) (by kernel_rfl) rfl (by kernel_rfl)) ?_
  intro W base args ds gs before hval0 hW _ hk _
  have hval : ∀ (j : Nat) t v, Try.f7.params[j]? = some t → args[j]? = some v → Value.okWide Try.prog W .any base t v := hval0
  have hW' := hW
  obtain ⟨p, q, hA0, hV, rfl, hfz, hnd⟩ := hW
  have hA : DataW.TrodAll enc Try.prog W 0 (fun _ => true) true Try.f7.params.toList args.toList ds p := hA0
  rw [Try.params7] at hA hval
  obtain ⟨v0, vs0, d0, ds0, p0, q0, hargs, rfl, rfl, h0, r0⟩ := trodAll_cons hA
  obtain ⟨v1, vs1, d1, ds1, p1, q1, rfl, rfl, rfl, h1, r1⟩ := trodAll_cons r0
  obtain ⟨v2, vs2, d2, ds2, p2, q2, rfl, rfl, rfl, h2, r2⟩ := trodAll_cons r1
  obtain ⟨rfl, rfl, rfl⟩ := trodAll_nil r2
  obtain rfl : args = #[v0, v1, v2] := by cases args; simp_all
  obtain ⟨rfl, rfl⟩ := trodVars_none hV
  have hk2 := of_decide_eq_true hk
  simp only [List.append_nil, Rows.uptoBulkAll] at hk2
  obtain ⟨a0, rfl, rfl, rfl, w0⟩ := open_int Try.underlying3 (hval 0 3 v0 rfl rfl) h0
  obtain ⟨a1, len1, cap1, rfl⟩ := okWide_slice Try.underlying22 (hval 1 22 v1 rfl rfl)
  have k1 := h1
  have lt1 : ∀ x ∈ p1, x.block < W.heap.size := by obtain ⟨m, hm⟩ := k1; exact DataW.trod_lt m _ _ _ hm
  obtain ⟨y1, b1, w1, e1, s1⟩ : ∃ y, (bkS bk1) y ≤ Rows.uptoBulk d1 ∧ (all' (wfI .i64)) y ∧ len1 = y.length ∧ Sl (Rep.int .i64) (fun _ => 0) W a1 cap1 y := by
    obtain ⟨fuel, hf⟩ := h1
    obtain ⟨y, h1, h2⟩ := (Opn.slice (e := 3) (r := (Rep.int .i64)) (R := (@RelI .i64)) Try.underlying22 (by kernel_rfl) (Opn.int Try.underlying3)) hf
    obtain ⟨⟨a, cap, h3, h4⟩, _⟩ := h1
    simp [Value.cells] at h3
    obtain ⟨rfl, rfl, rfl⟩ := h3
    obtain ⟨h5, h6⟩ := (BQ.slice BQ.int) y d1 h2
    exact ⟨y, h5, h6, rfl, h4⟩
  subst e1
  obtain ⟨a2, len2, cap2, rfl⟩ := okWide_slice Try.underlying22 (hval 2 22 v2 rfl rfl)
  have k2 := h2
  have lt2 : ∀ x ∈ p2, x.block < W.heap.size := by obtain ⟨m, hm⟩ := k2; exact DataW.trod_lt m _ _ _ hm
  obtain ⟨y2, b2, w2, e2, s2⟩ : ∃ y, (bkS bk1) y ≤ Rows.uptoBulk d2 ∧ (all' (wfI .i64)) y ∧ len2 = y.length ∧ Sl (Rep.int .i64) (fun _ => 0) W a2 cap2 y := by
    obtain ⟨fuel, hf⟩ := h2
    obtain ⟨y, h1, h2⟩ := (Opn.slice (e := 3) (r := (Rep.int .i64)) (R := (@RelI .i64)) Try.underlying22 (by kernel_rfl) (Opn.int Try.underlying3)) hf
    obtain ⟨⟨a, cap, h3, h4⟩, _⟩ := h1
    simp [Value.cells] at h3
    obtain ⟨rfl, rfl, rfl⟩ := h3
    obtain ⟨h5, h6⟩ := (BQ.slice BQ.int) y d2 h2
    exact ⟨y, h5, h6, rfl, h4⟩
  subst e2
  clear hA0 hval0
  simp only [List.append_nil] at hW'
  have hb : (bkS bk1) y1 + (bkS bk1) y2 ≤ 1048576 := by omega
  refine (walk a0 y1 a1 cap1 y2 a2 cap2 W hb w0 w1 s1 w2 s2).mono fun e W' ⟨he, bel⟩ => ?_
  subst he
  exact ⟨_, rfl, _, _, _, [], _, [], hW', trodAll_mk1 (shut_bool Try.underlying4 _), (trodAll_cons_mk (shut_int Try.underlying3 w0) (trodAll_cons_mk (Below.trod laidOut (by kernel_rfl) (of_decide_eq_true (by kernel_rfl)) k1 bel lt1) (trodAll_cons_mk (Below.trod laidOut (by kernel_rfl) (of_decide_eq_true (by kernel_rfl)) k2 bel lt2) trodAll_mk0))), rfl, bel.frame _, fun h => by cases h⟩

theorem proved : Rows.GraphToldUptoSaid :=
  OpenClaim.holds_of_cond 7 Try.f7 rfl rfl rfl rfl rfl rfl rfl ⟨rfl, rfl, rfl, rfl, rfl⟩ rfl rfl rfl rfl rfl (by kernel_rfl) Try.func7 (by kernel_rfl)
    (of_decide_eq_true (by kernel_rfl)) (by unfold Func.isWrapper; first | (rw [if_pos (by decide +kernel)]; kernel_rfl) | (rw [if_neg (by decide +kernel)]; exact ⟨rfl, rfl⟩))
    (fun os started H enc _ F => lifted os started H enc F)
#print axioms proved
end Go.Proofs.Ytgkofjmeopbkbaa.graphTold
