/-
  'OrderCheck' (credence/credencelaw18.OrderCheck), where what it reads is of bulk at most 1048576: the call returns true and the arguments read afterwards as before.
-/
import Derived.Test.YtgkofjmeopbkbaaRows
import Derived.Test.YtgkofjmeopbkbaaBulk
import Derived.Test.YtgkofjmeopbkbaaOrderCheckF4
import Derived.WalkKit
import Derived.ProofKit
import Derived.OpenShut
import Derived.ShutString
import Derived.ChangeOld
import Derived.Below
import Derived.JoinedCond
namespace Go.Proofs.Ytgkofjmeopbkbaa.orderCheck
open Go Go.ChangeShapes Go.WideShapes Go.ChangeAt Go.RowKit
open Go.ChangeMaps (open_string shut_string)
set_option linter.unusedVariables false

theorem own : ownKnob Try.prog.godebug = none := by kernel_rfl
theorem laidOut : laidOutB Try.prog = true := by kernel_rfl

theorem ones (l : List Int) : bkS bk1 l = l.length + 1 := by
  simp only [bkS]
  congr 1
  induction l with
  | nil => rfl
  | cons x l ih => simp only [List.map_cons, List.sum_cons, ih, bk1, List.length_cons]; omega
theorem walk (y0 : List Int) (a0 : Option Addr) (cap0 : Nat) (y1 : List Int) (a1 : Option Addr) (cap1 : Nat) (w : World) (hb : bkS bk1 y0 + bkS bk1 y1 ≤ 1048576) (_ : all' (wfI .i64) y0) (s0 : Sl (Rep.int .i64) (fun _ => 0) w a0 cap0 y0)
    (_ : all' (wfI .i64) y1) (s1 : Sl (Rep.int .i64) (fun _ => 0) w a1 cap1 y1) :
    Calls Try.prog 10 #[.slice a0 y0.length cap0, .slice a1 y1.length cap1] w fun e w' => e = .returned (.bool true) ∧ Below w.heap.size w w' := by
  have h0 := ones y0
  have h1 := ones y1
  exact c_credencelaw18_OrderCheck 3000000 (fun _ => 0) w a0 cap0 y0 a1 cap1 y1 s0 s1 true (OrderCheck_true y0 y1 (by omega) (by omega) (by decide))

set_option maxRecDepth 100000 in
theorem lifted (os : Os) (started : os.Started) (H : Type) (enc : TypeId × Value → H) (F : Stop.Interp) :
    ReturnsInHanded {} Try.checked os 10 .any ((Rows.OpenSpec.upto Rows.orderCheckSpec).pre6 enc Try.prog Try.f10 Rows.orderCheckUptoRow.domain false) (((Rows.OpenSpec.upto Rows.orderCheckSpec).at F).post enc Try.prog Try.f10 false true false false) := by
  refine returnsInHanded_of_cond (C := Try.checked) (s := Rows.OpenSpec.upto Rows.orderCheckSpec) (k := Rows.uptoSmall) rfl own started (by kernel_rfl) Try.func10
    (OpenSpec.witness (enc := enc) (C := Try.checked) (s := Rows.OpenSpec.upto Rows.orderCheckSpec) (k := Rows.uptoSmall) rfl false ⟨#[], #[.slice none 0 0, .slice none 0 0], []⟩ 8 (by kernel_rfl) (by kernel_rfl) (by kernel_rfl)
      (x := ([.nil, .nil], [], [])) (by kernel_rfl) rfl (by kernel_rfl)) ?_
  intro W base args ds gs before hval0 hW _ hk _
  have hval : ∀ (j : Nat) t v, Try.f10.params[j]? = some t → args[j]? = some v → Value.okWide Try.prog W .any base t v := hval0
  have hW' := hW
  obtain ⟨p, q, hA0, hV, rfl, hfz, hnd⟩ := hW
  have hA : DataW.TrodAll enc Try.prog W 0 (fun _ => true) true Try.f10.params.toList args.toList ds p := hA0
  rw [Try.params10] at hA hval
  obtain ⟨v0, vs0, d0, ds0, p0, q0, hargs, rfl, rfl, h0, r0⟩ := trodAll_cons hA
  obtain ⟨v1, vs1, d1, ds1, p1, q1, rfl, rfl, rfl, h1, r1⟩ := trodAll_cons r0
  obtain ⟨rfl, rfl, rfl⟩ := trodAll_nil r1
  obtain rfl : args = #[v0, v1] := by cases args; simp_all
  obtain ⟨rfl, rfl⟩ := trodVars_none hV
  have hk2 := of_decide_eq_true hk
  simp only [List.append_nil, Rows.uptoBulkAll] at hk2
  obtain ⟨a0, len0, cap0, rfl⟩ := okWide_slice Try.underlying22 (hval 0 22 v0 rfl rfl)
  have k0 := h0
  have lt0 : ∀ x ∈ p0, x.block < W.heap.size := by obtain ⟨m, hm⟩ := k0; exact DataW.trod_lt m _ _ _ hm
  obtain ⟨y0, b0, w0, e0, s0⟩ : ∃ y, (bkS bk1) y ≤ Rows.uptoBulk d0 ∧ (all' (wfI .i64)) y ∧ len0 = y.length ∧ Sl (Rep.int .i64) (fun _ => 0) W a0 cap0 y := by
    obtain ⟨fuel, hf⟩ := h0
    obtain ⟨y, h1, h2⟩ := (Opn.slice (e := 3) (r := (Rep.int .i64)) (R := (@RelI .i64)) Try.underlying22 (by kernel_rfl) (Opn.int Try.underlying3)) hf
    obtain ⟨⟨a, cap, h3, h4⟩, _⟩ := h1
    simp [Value.cells] at h3
    obtain ⟨rfl, rfl, rfl⟩ := h3
    obtain ⟨h5, h6⟩ := (BQ.slice BQ.int) y d0 h2
    exact ⟨y, h5, h6, rfl, h4⟩
  subst e0
  obtain ⟨a1, len1, cap1, rfl⟩ := okWide_slice Try.underlying22 (hval 1 22 v1 rfl rfl)
  have k1 := h1
  have lt1 : ∀ x ∈ p1, x.block < W.heap.size := by obtain ⟨m, hm⟩ := k1; exact DataW.trod_lt m _ _ _ hm
  obtain ⟨y1, b1, w1, e1, s1⟩ : ∃ y, (bkS bk1) y ≤ Rows.uptoBulk d1 ∧ (all' (wfI .i64)) y ∧ len1 = y.length ∧ Sl (Rep.int .i64) (fun _ => 0) W a1 cap1 y := by
    obtain ⟨fuel, hf⟩ := h1
    obtain ⟨y, h1, h2⟩ := (Opn.slice (e := 3) (r := (Rep.int .i64)) (R := (@RelI .i64)) Try.underlying22 (by kernel_rfl) (Opn.int Try.underlying3)) hf
    obtain ⟨⟨a, cap, h3, h4⟩, _⟩ := h1
    simp [Value.cells] at h3
    obtain ⟨rfl, rfl, rfl⟩ := h3
    obtain ⟨h5, h6⟩ := (BQ.slice BQ.int) y d1 h2
    exact ⟨y, h5, h6, rfl, h4⟩
  subst e1
  clear hA0 hval0
  simp only [List.append_nil] at hW'
  have hb : (bkS bk1) y0 + (bkS bk1) y1 ≤ 1048576 := by omega
  refine (walk y0 a0 cap0 y1 a1 cap1 W hb w0 s0 w1 s1).mono fun e W' ⟨he, bel⟩ => ?_
  subst he
  exact ⟨_, rfl, _, _, _, [], _, [], hW', trodAll_mk1 (shut_bool Try.underlying4 _), (trodAll_cons_mk (Below.trod laidOut (by kernel_rfl) (of_decide_eq_true (by kernel_rfl)) k0 bel lt0) (trodAll_cons_mk (Below.trod laidOut (by kernel_rfl) (of_decide_eq_true (by kernel_rfl)) k1 bel lt1) trodAll_mk0)), rfl, bel.frame _, fun h => by cases h⟩

theorem proved : Rows.OrderCheckUptoSaid :=
  OpenClaim.holds_of_cond 10 Try.f10 rfl rfl rfl rfl rfl rfl rfl ⟨rfl, rfl, rfl, rfl, rfl⟩ rfl rfl rfl rfl rfl (by kernel_rfl) Try.func10 (by kernel_rfl)
    (of_decide_eq_true (by kernel_rfl)) (by unfold Func.isWrapper; first | (rw [if_pos (by decide +kernel)]; kernel_rfl) | (rw [if_neg (by decide +kernel)]; exact ⟨rfl, rfl⟩))
    (fun os started H enc _ F => lifted os started H enc F)
#print axioms proved
end Go.Proofs.Ytgkofjmeopbkbaa.orderCheck
