/-
  'QueryText' (credence/credencelaw23.QueryText), where what it reads is of bulk at most 1048576: the call returns true and the arguments read afterwards as before.
-/
import Derived.Test.YtnfegieaaaigmaaRows
import Derived.Test.YtnfegieaaaigmaaQueryTextBBulk
import Derived.Test.YtnfegieaaaigmaaQueryTextF2
import Derived.WalkKit
import Derived.ProofKit
import Derived.OpenShut
import Derived.ShutString
import Derived.ChangeOld
import Derived.Below
import Derived.JoinedCond
namespace Go.Proofs.Ytnfegieaaaigmaa.queryText
open Go Go.ChangeShapes Go.WideShapes Go.ChangeAt Go.RowKit
open Go.ChangeMaps (open_string shut_string)
set_option linter.unusedVariables false

theorem own : ownKnob Try.prog.godebug = none := by kernel_rfl
theorem laidOut : laidOutB Try.prog = true := by kernel_rfl

theorem walk (y0 : List QryV) (a0 : Option Addr) (c0 : Nat) (w : World) (hb : bkS bkQry y0 ≤ 1048576)
    (q0 : (all' (qPr (wfI .i8) (qPr (all' (qPr (fun _ => True) (fun _ => True))) (qPr (all' (qPr (fun _ => True) (fun _ => True))) (qPr (wfI .i8) (qPr (all' (fun _ => True)) (qPr (fun _ => True) (fun _ => True)))))))) y0)
    (s0 : Sl (Rep.pair (Rep.int .i8) (Rep.pair (Rep.slice (Rep.pair Rep.str Rep.str)) (Rep.pair (Rep.slice (Rep.pair Rep.str Rep.str)) (Rep.pair (Rep.int .i8) (Rep.pair (Rep.slice Rep.str) (Rep.pair Rep.bool Rep.bool)))))) (fun _ => 0) w a0 c0 y0) :
    Calls Try.prog 3 #[.slice a0 y0.length c0] w fun e w' => e = .returned (.bool true) ∧ Below w.heap.size w w' := by
  obtain ⟨h1, h2, h3⟩ := bkQs y0
  have hm := QueryText_true (N := 4611686018427387904) (l := y0) (by omega) (fun q hq => bkQry_sml (by have := h3 q hq; omega)) (by omega) (by omega)
  exact c_l23_QueryText 4611686018427387904 (fun _ => 0) w a0 c0 y0 s0 true hm

set_option maxRecDepth 100000 in
theorem lifted (os : Os) (started : os.Started) (H : Type) (enc : TypeId × Value → H) (F : Stop.Interp) :
    ReturnsInHanded {} Try.checked os 3 .any ((Rows.OpenSpec.upto Rows.queryTextSpec).pre6 enc Try.prog Try.f3 Rows.queryTextUptoRow.domain false) (((Rows.OpenSpec.upto Rows.queryTextSpec).at F).post enc Try.prog Try.f3 false true false false) := by
  refine returnsInHanded_of_cond (C := Try.checked) (s := Rows.OpenSpec.upto Rows.queryTextSpec) (k := Rows.uptoSmall) rfl own started (by kernel_rfl) Try.func3
    (OpenSpec.witness (enc := enc) (C := Try.checked) (s := Rows.OpenSpec.upto Rows.queryTextSpec) (k := Rows.uptoSmall) rfl false ⟨#[], #[.slice none 0 0], []⟩ 8 (by kernel_rfl) (by kernel_rfl) (by kernel_rfl)
      (x := ([.nil], [], [])) (by kernel_rfl) rfl (by kernel_rfl)) ?_
  intro W base args ds gs before hval0 hW _ hk _
  have hval : ∀ (j : Nat) t v, Try.f3.params[j]? = some t → args[j]? = some v → Value.okWide Try.prog W .any base t v := hval0
  have hW' := hW
  obtain ⟨p, q, hA0, hV, rfl, hfz, hnd⟩ := hW
  have hA : DataW.TrodAll enc Try.prog W 0 (fun _ => true) true Try.f3.params.toList args.toList ds p := hA0
  rw [Try.params3] at hA hval
  obtain ⟨v0, vs0, d0, ds0, p0, q0, hargs, rfl, rfl, h0, r0⟩ := trodAll_cons hA
  obtain ⟨rfl, rfl, rfl⟩ := trodAll_nil r0
  obtain rfl : args = #[v0] := by cases args; simp_all
  obtain ⟨rfl, rfl⟩ := trodVars_none hV
  have hk2 := of_decide_eq_true hk
  simp only [List.append_nil, Rows.uptoBulkAll] at hk2
  obtain ⟨a0, len0, cap0, rfl⟩ := okWide_slice Try.underlying22 (hval 0 22 v0 rfl rfl)
  have k0 := h0
  have lt0 : ∀ x ∈ p0, x.block < W.heap.size := by obtain ⟨m, hm⟩ := k0; exact DataW.trod_lt m _ _ _ hm
  obtain ⟨y0, b0, w0, e0, s0⟩ : ∃ y, (bkS (bkG (bkP bk1 (bkP (bkS (bkG (bkP bkT bkT))) (bkP (bkS (bkG (bkP bkT bkT))) (bkP bk1 (bkP (bkS bkT) (bkG (bkP bk1 bk1))))))))) y ≤ Rows.uptoBulk d0 ∧ (all' (qPr (wfI .i8) (qPr (all' (qPr (fun _ => True) (fun _ => True))) (qPr (all' (qPr (fun _ => True) (fun _ => True))) (qPr (wfI .i8) (qPr (all' (fun _ => True)) (qPr (fun _ => True) (fun _ => True)))))))) y ∧ len0 = y.length ∧ Sl (Rep.pair (Rep.int .i8) (Rep.pair (Rep.slice (Rep.pair Rep.str Rep.str)) (Rep.pair (Rep.slice (Rep.pair Rep.str Rep.str)) (Rep.pair (Rep.int .i8) (Rep.pair (Rep.slice Rep.str) (Rep.pair Rep.bool Rep.bool)))))) (fun _ => 0) W a0 cap0 y := by
    obtain ⟨fuel, hf⟩ := h0
    obtain ⟨y, h1, h2⟩ := (Opn.slice (e := 32) (r := (Rep.pair (Rep.int .i8) (Rep.pair (Rep.slice (Rep.pair Rep.str Rep.str)) (Rep.pair (Rep.slice (Rep.pair Rep.str Rep.str)) (Rep.pair (Rep.int .i8) (Rep.pair (Rep.slice Rep.str) (Rep.pair Rep.bool Rep.bool))))))) (R := (@RelS _ (@RelC _ _ (@RelI .i8) (@RelC _ _ (@RL (ByteArray × ByteArray) (@RelS _ (@RelC _ _ @RelT (@RelO _ @RelT)))) (@RelC _ _ (@RL (ByteArray × ByteArray) (@RelS _ (@RelC _ _ @RelT (@RelO _ @RelT)))) (@RelC _ _ (@RelI .i8) (@RelC _ _ (@RL ByteArray @RelT) (@RelO _ (@RelW _ @RelB))))))))) Try.underlying22 (by kernel_rfl) (Opn.struct (r := (Rep.pair (Rep.int .i8) (Rep.pair (Rep.slice (Rep.pair Rep.str Rep.str)) (Rep.pair (Rep.slice (Rep.pair Rep.str Rep.str)) (Rep.pair (Rep.int .i8) (Rep.pair (Rep.slice Rep.str) (Rep.pair Rep.bool Rep.bool))))))) (R := (@RelC _ _ (@RelI .i8) (@RelC _ _ (@RL (ByteArray × ByteArray) (@RelS _ (@RelC _ _ @RelT (@RelO _ @RelT)))) (@RelC _ _ (@RL (ByteArray × ByteArray) (@RelS _ (@RelC _ _ @RelT (@RelO _ @RelT)))) (@RelC _ _ (@RelI .i8) (@RelC _ _ (@RL ByteArray @RelT) (@RelO _ (@RelW _ @RelB)))))))) Try.underlying32 (by kernel_rfl) (OpF.cons (r := (Rep.int .i8)) (R := (@RelI .i8)) (s := (Rep.pair (Rep.slice (Rep.pair Rep.str Rep.str)) (Rep.pair (Rep.slice (Rep.pair Rep.str Rep.str)) (Rep.pair (Rep.int .i8) (Rep.pair (Rep.slice Rep.str) (Rep.pair Rep.bool Rep.bool)))))) (S := (@RelC _ _ (@RL (ByteArray × ByteArray) (@RelS _ (@RelC _ _ @RelT (@RelO _ @RelT)))) (@RelC _ _ (@RL (ByteArray × ByteArray) (@RelS _ (@RelC _ _ @RelT (@RelO _ @RelT)))) (@RelC _ _ (@RelI .i8) (@RelC _ _ (@RL ByteArray @RelT) (@RelO _ (@RelW _ @RelB))))))) rfl (by kernel_rfl) (Opn.int Try.underlying27) (OpF.cons (r := (Rep.slice (Rep.pair Rep.str Rep.str))) (R := (@RL (ByteArray × ByteArray) (@RelS _ (@RelC _ _ @RelT (@RelO _ @RelT))))) (s := (Rep.pair (Rep.slice (Rep.pair Rep.str Rep.str)) (Rep.pair (Rep.int .i8) (Rep.pair (Rep.slice Rep.str) (Rep.pair Rep.bool Rep.bool))))) (S := (@RelC _ _ (@RL (ByteArray × ByteArray) (@RelS _ (@RelC _ _ @RelT (@RelO _ @RelT)))) (@RelC _ _ (@RelI .i8) (@RelC _ _ (@RL ByteArray @RelT) (@RelO _ (@RelW _ @RelB)))))) rfl (by kernel_rfl) (Opn.slice (e := 36) (r := (Rep.pair Rep.str Rep.str)) (R := (@RelS _ (@RelC _ _ @RelT (@RelO _ @RelT)))) Try.underlying28 (by kernel_rfl) (Opn.struct (r := (Rep.pair Rep.str Rep.str)) (R := (@RelC _ _ @RelT (@RelO _ @RelT))) Try.underlying36 (by kernel_rfl) (OpF.cons (r := Rep.str) (R := @RelT) (s := Rep.str) (S := (@RelO _ @RelT)) rfl (by kernel_rfl) (Opn.str Try.underlying9) (OpF.one (r := Rep.str) (R := @RelT) rfl (by kernel_rfl) (Opn.str Try.underlying9))))) (OpF.cons (r := (Rep.slice (Rep.pair Rep.str Rep.str))) (R := (@RL (ByteArray × ByteArray) (@RelS _ (@RelC _ _ @RelT (@RelO _ @RelT))))) (s := (Rep.pair (Rep.int .i8) (Rep.pair (Rep.slice Rep.str) (Rep.pair Rep.bool Rep.bool)))) (S := (@RelC _ _ (@RelI .i8) (@RelC _ _ (@RL ByteArray @RelT) (@RelO _ (@RelW _ @RelB))))) rfl (by kernel_rfl) (Opn.slice (e := 36) (r := (Rep.pair Rep.str Rep.str)) (R := (@RelS _ (@RelC _ _ @RelT (@RelO _ @RelT)))) Try.underlying28 (by kernel_rfl) (Opn.struct (r := (Rep.pair Rep.str Rep.str)) (R := (@RelC _ _ @RelT (@RelO _ @RelT))) Try.underlying36 (by kernel_rfl) (OpF.cons (r := Rep.str) (R := @RelT) (s := Rep.str) (S := (@RelO _ @RelT)) rfl (by kernel_rfl) (Opn.str Try.underlying9) (OpF.one (r := Rep.str) (R := @RelT) rfl (by kernel_rfl) (Opn.str Try.underlying9))))) (OpF.cons (r := (Rep.int .i8)) (R := (@RelI .i8)) (s := (Rep.pair (Rep.slice Rep.str) (Rep.pair Rep.bool Rep.bool))) (S := (@RelC _ _ (@RL ByteArray @RelT) (@RelO _ (@RelW _ @RelB)))) rfl (by kernel_rfl) (Opn.int Try.underlying27) (OpF.cons (r := (Rep.slice Rep.str)) (R := (@RL ByteArray @RelT)) (s := (Rep.pair Rep.bool Rep.bool)) (S := (@RelO _ (@RelW _ @RelB))) rfl (by kernel_rfl) (Opn.slice (e := 9) (r := Rep.str) (R := @RelT) Try.underlying29 (by kernel_rfl) (Opn.str Try.underlying9)) (OpF.one (r := (Rep.pair Rep.bool Rep.bool)) (R := (@RelW _ @RelB)) rfl (by kernel_rfl) (Opn.array2 (r := Rep.bool) (R := @RelB) Try.underlying30 (by kernel_rfl) (by kernel_rfl) (Opn.bool Try.underlying4)))))))))) hf
    obtain ⟨⟨a, cap, h3, h4⟩, _⟩ := h1
    simp [Value.cells] at h3
    obtain ⟨rfl, rfl, rfl⟩ := h3
    obtain ⟨h5, h6⟩ := (BQ.slice (BQ.agg (BQF.cons BQ.int (BQF.cons (BQ.slice (BQ.agg (BQF.cons BQ.str (BQF.one BQ.str)))) (BQF.cons (BQ.slice (BQ.agg (BQF.cons BQ.str (BQF.one BQ.str)))) (BQF.cons BQ.int (BQF.cons (BQ.slice BQ.str) (BQF.one (BQ.two BQ.bool))))))))) y d0 h2
    exact ⟨y, h5, h6, rfl, h4⟩
  subst e0
  clear hA0 hval0
  simp only [List.append_nil] at hW'
  have hb : (bkS (bkG (bkP bk1 (bkP (bkS (bkG (bkP bkT bkT))) (bkP (bkS (bkG (bkP bkT bkT))) (bkP bk1 (bkP (bkS bkT) (bkG (bkP bk1 bk1))))))))) y0 ≤ 1048576 := by omega
  refine (walk y0 a0 cap0 W hb w0 s0).mono fun e W' ⟨he, bel⟩ => ?_
  subst he
  exact ⟨_, rfl, _, _, _, [], _, [], hW', trodAll_mk1 (shut_bool Try.underlying4 _), (trodAll_cons_mk (Below.trod laidOut (by kernel_rfl) (of_decide_eq_true (by kernel_rfl)) k0 bel lt0) trodAll_mk0), rfl, bel.frame _, fun h => by cases h⟩

theorem and_mk {a b : Bool} (ha : a = true) (hb : b = true) : (a && b) = true := by rw [ha, hb]; rfl
theorem wrapper : Try.f3.isWrapper Try.pinned.checked.prog Rows.queryTextUptoRow.wrapper Rows.queryTextUptoRow.mainSum := by unfold Func.isWrapper; first | (rw [if_pos (by decide +kernel)]; kernel_rfl) | (rw [if_neg (by decide +kernel)]; exact ⟨rfl, rfl⟩)
theorem inst : Try.f3.isInstance Try.pinned.checked.prog Rows.queryTextUptoRow.origin Rows.queryTextUptoRow.targs := of_decide_eq_true (by kernel_rfl)
theorem named : Try.pinned.checked.prog.funcNamed Rows.queryTextUptoRow.func = some 3 := by kernel_rfl
set_option maxHeartbeats 20000000 in
theorem closed : joinedFacts Try.pinned.checked.prog 3 Try.f3 (Rows.OpenSpec.upto Rows.queryTextSpec).bare Rows.queryTextUptoRow = true := by
  unfold joinedFacts
  repeat' with_reducible apply and_mk
  all_goals as_aux_lemma => kernel_rfl
theorem proved : Rows.QueryTextUptoSaid :=
  OpenClaim.holds_of_cond 3 Try.f3 rfl rfl rfl rfl rfl rfl rfl ⟨rfl, rfl, rfl, rfl, rfl⟩ rfl rfl rfl rfl rfl named Try.func3 closed
    inst wrapper (fun os started H enc _ F => lifted os started H enc F)
#print axioms proved
end Go.Proofs.Ytnfegieaaaigmaa.queryText
