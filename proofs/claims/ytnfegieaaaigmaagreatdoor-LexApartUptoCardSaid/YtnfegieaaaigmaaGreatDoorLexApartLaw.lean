/-
  'LexApart' (credence/credencelaw06.LexApart), where what it reads is of bulk at most 1048576: the call returns true and the arguments read afterwards as before.
-/
import Derived.Test.YtnfegieaaaigmaaGreatDoorRows
import Derived.Test.YtnfegieaaaigmaaGreatDoorLexApartBBulk
import Derived.Test.YtnfegieaaaigmaaGreatDoorLexApartF2
import Derived.WalkKit
import Derived.ProofKit
import Derived.OpenShut
import Derived.ShutString
import Derived.ChangeOld
import Derived.Below
import Derived.JoinedCond
import Derived.Test.YtnfegieaaaigmaaGreatDoorLexApartBDoor
namespace Go.Proofs.YtnfegieaaaigmaaGreatDoor.lexApart
open Go Go.ChangeShapes Go.WideShapes Go.ChangeAt Go.RowKit
open Go.ChangeMaps (open_string shut_string)
set_option linter.unusedVariables false

theorem own : ownKnob Tryz.prog.godebug = none := by kernel_rfl
theorem laidOut : laidOutB Tryz.prog = true := by kernel_rfl

theorem walk (y0 : ByteArray) (y1 : List Int) (a1 : Option Addr) (c1 : Nat) (w : World) (hb : bkT y0 + (bkS bk1) y1 ≤ 1048576) (q0 : y0.size ≤ maxLen) (q1 : (all' (wfI .i64)) y1) (s1 : Sl (Rep.int .i64) (fun _ => 0) w a1 c1 y1) (hgl : Gl (.iface 146 (.agg #[.pointer (some ⟨4, 30, none⟩)])) (fun _ => 0) w) :
    Calls Tryz.prog 6 #[.string y0, .slice a1 y1.length c1] w fun e w' => e = .returned (.bool true) ∧ Below w.heap.size w w' := by
  have hr : ∀ e ∈ y1, -9223372036854775808 ≤ e ∧ e ≤ 9223372036854775807 := by
    intro e he
    have h := q1 e he
    simp only [wfI, Lit.wf, Bool.and_eq_true, decide_eq_true_eq] at h
    exact h
  exact c_l06_LexApart 33554467 (fun _ => 0) w y0 a1 c1 y1 s1 hgl true (lexApart_true y0 y1 hr)

theorem reads (os : Os) {H : Type} (enc : TypeId × Value → H) : ∃ places, DataW.whole enc Tryz.prog ((door os).forCall (fun _ _ => 0) ⟨#[], #[.string .empty, .slice none 0 0], []⟩).memory Tryz.f6.params.toList Rows.lexApartSpec.vars false #[.string .empty, .slice none 0 0].toList 8 = some ([.lit (.string []), .nil], [], places) :=
  ⟨[], by kernel_rfl⟩
set_option maxRecDepth 100000 in
theorem lifted (os : Os) (started : os.Started) (H : Type) (enc : TypeId × Value → H) (F : Stop.Interp) :
    ReturnsInHanded {} Tryz.checked os 6 .any ((Rows.OpenSpec.upto Rows.lexApartSpec).preRow enc Tryz.prog Tryz.f6 Rows.lexApartUptoRow.domain false Rows.lexApartUptoRow.laid) (((Rows.OpenSpec.upto Rows.lexApartSpec).at F).post enc Tryz.prog Tryz.f6 false true false false) := by
  obtain ⟨places, hx⟩ := reads os enc
  refine returnsInHanded_of_row (C := Tryz.checked) (s := Rows.OpenSpec.upto Rows.lexApartSpec) own started (by kernel_rfl) Tryz.func6
    (witness_row_at (enc := enc) (C := Tryz.checked) false (door os) #[.string .empty, .slice none 0 0] (door_os os) (by kernel_rfl) (by kernel_rfl) (by kernel_rfl)
      (OpenSpec.preRow_of_cond 8 hx (by kernel_rfl) (fun k hk => by cases hk; kernel_rfl) (by kernel_rfl) (laid_met os _))) ?_
  intro W base args ds gs before hval0 hW _ hcond _ hL hS _
  have hk := hcond _ rfl
  have hgl := gl_of hL hS
  have hval : ∀ (j : Nat) t v, Tryz.f6.params[j]? = some t → args[j]? = some v → Value.okWide Tryz.prog W .any base t v := hval0
  have hW' := hW
  obtain ⟨p, q, hA0, hV, rfl, hfz, hnd⟩ := hW
  have hA : DataW.TrodAll enc Tryz.prog W 0 (fun _ => true) true Tryz.f6.params.toList args.toList ds p := hA0
  rw [Tryz.params6] at hA hval
  obtain ⟨v0, vs0, d0, ds0, p0, q0, hargs, rfl, rfl, h0, r0⟩ := trodAll_cons hA
  obtain ⟨v1, vs1, d1, ds1, p1, q1, rfl, rfl, rfl, h1, r1⟩ := trodAll_cons r0
  obtain ⟨rfl, rfl, rfl⟩ := trodAll_nil r1
  obtain rfl : args = #[v0, v1] := by cases args; simp_all
  obtain ⟨rfl, rfl⟩ := trodVars_none hV
  have hk2 := of_decide_eq_true hk
  simp only [List.append_nil, Rows.uptoBulkAll] at hk2
  obtain ⟨a0, rfl, rfl, rfl, w0⟩ := open_string Tryz.underlying9 (hval 0 9 v0 rfl rfl) h0
  have b0 : bkT a0 ≤ Rows.uptoBulk (DataW.lit (H := H) (.string a0.data.toList)) := by simp only [bkT, Rows.uptoBulk, Array.length_toList]; exact Nat.le_refl _
  obtain ⟨a1, len1, cap1, rfl⟩ := okWide_slice Tryz.underlying46 (hval 1 46 v1 rfl rfl)
  have k1 := h1
  have lt1 : ∀ x ∈ p1, x.block < W.heap.size := by obtain ⟨m, hm⟩ := k1; exact DataW.trod_lt m _ _ _ hm
  obtain ⟨y1, b1, w1, e1, s1⟩ : ∃ y, (bkS bk1) y ≤ Rows.uptoBulk d1 ∧ (all' (wfI .i64)) y ∧ len1 = y.length ∧ Sl (Rep.int .i64) (fun _ => 0) W a1 cap1 y := by
    obtain ⟨fuel, hf⟩ := h1
    obtain ⟨y, h1, h2⟩ := (Opn.slice (e := 3) (r := (Rep.int .i64)) (R := (@RelI .i64)) Tryz.underlying46 (by kernel_rfl) (Opn.int Tryz.underlying3)) hf
    obtain ⟨⟨a, cap, h3, h4⟩, _⟩ := h1
    simp [Value.cells] at h3
    obtain ⟨rfl, rfl, rfl⟩ := h3
    obtain ⟨h5, h6⟩ := (BQ.slice BQ.int) y d1 h2
    exact ⟨y, h5, h6, rfl, h4⟩
  subst e1
  clear hA0 hval0
  simp only [List.append_nil] at hW'
  have hb : bkT a0 + (bkS bk1) y1 ≤ 1048576 := by omega
  refine (walk a0 y1 a1 cap1 W hb w0 w1 s1 hgl).mono fun e W' ⟨he, bel⟩ => ?_
  subst he
  exact ⟨_, rfl, _, _, _, [], _, [], hW', trodAll_mk1 (shut_bool Tryz.underlying4 _), (trodAll_cons_mk (shut_string Tryz.underlying9 w0) (trodAll_cons_mk (Below.trod laidOut (by kernel_rfl) (of_decide_eq_true (by kernel_rfl)) k1 bel lt1) trodAll_mk0)), rfl, bel.frame _, fun h => by cases h⟩

theorem and_mk {a b : Bool} (ha : a = true) (hb : b = true) : (a && b) = true := by rw [ha, hb]; rfl
theorem wrapper : Tryz.f6.isWrapper Tryz.pinned.checked.prog Rows.lexApartUptoRow.wrapper Rows.lexApartUptoRow.mainSum := by unfold Func.isWrapper; first | (rw [if_pos (by decide +kernel)]; kernel_rfl) | (rw [if_neg (by decide +kernel)]; exact ⟨rfl, rfl⟩)
theorem inst : Tryz.f6.isInstance Tryz.pinned.checked.prog Rows.lexApartUptoRow.origin Rows.lexApartUptoRow.targs := of_decide_eq_true (by kernel_rfl)
theorem named : Tryz.pinned.checked.prog.funcNamed Rows.lexApartUptoRow.func = some 6 := by kernel_rfl
set_option maxHeartbeats 20000000 in
theorem closed : joinedFacts Tryz.pinned.checked.prog 6 Tryz.f6 (Rows.OpenSpec.upto Rows.lexApartSpec).bare Rows.lexApartUptoRow = true := by
  unfold joinedFacts
  repeat' with_reducible apply and_mk
  all_goals as_aux_lemma => kernel_rfl
theorem proved : Rows.LexApartUptoSaid :=
  OpenClaim.holds_of_cond 6 Tryz.f6 rfl rfl rfl rfl rfl rfl rfl ⟨rfl, rfl, rfl, rfl, rfl⟩ rfl rfl rfl rfl rfl named Tryz.func6 closed
    inst wrapper (fun os started H enc _ F => by rw [OpenClaim.pre_eq_preRow]; exact lifted os started H enc F)
theorem plain (f : FuncId) (fn : Func) (hf : Tryz.pinned.checked.prog.funcNamed "credence/credencelaw06.LexApart" = some f) (hfn : Tryz.pinned.checked.prog.funcs[f]? = some fn) :
    true = Tryz.pinned.checked.prog.looks [] ∧ ∀ (j : Nat) t, fn.params[j]? = some t → Tryz.pinned.checked.prog.wantsStandIn t = false := by
  obtain rfl : f = 6 := Option.some.inj ((show Tryz.prog.funcNamed "credence/credencelaw06.LexApart" = some 6 by kernel_rfl).symm.trans hf) |>.symm
  obtain rfl : fn = Tryz.f6 := (Option.some.inj (Tryz.func6.symm.trans hfn)).symm
  refine ⟨by kernel_rfl, fun j t ht => ?_⟩
  rw [Tryz.params6] at ht
  have hm := Array.mem_of_getElem? ht
  have hall : ∀ t ∈ (#[9, 46] : Array Nat), Tryz.prog.wantsStandIn t = false := by
    intro t ht
    simp only [List.mem_toArray, List.mem_cons, List.not_mem_nil, or_false] at ht
    rcases ht with rfl | rfl <;> kernel_rfl
  exact hall t hm
theorem card : Rows.LexApartUptoCardSaid :=
  Claim7.holds_tied_plain_at .later [] _ _ _ _ proved (fun _ h => by cases h) (by kernel_rfl) (fun _ h => by cases h) lexApartUpto_row_tie rfl ⟨rfl, rfl⟩ (by kernel_rfl) rfl plain (by kernel_rfl)
#print axioms card
end Go.Proofs.YtnfegieaaaigmaaGreatDoor.lexApart
