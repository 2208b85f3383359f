/-
  What functions of the program compute, as plain Lean functions (m_..), and proofs that they compute it (c_..). Printed by a program of the author; no conditions.
-/
import Derived.Test.YtgkofjmeopbkbaaFloat
import Derived.Test.YtgkofjmeopbkbaaProg
import Derived.Test.YtgkofjmeopbkbaaDelete
import Derived.Test.YtgkofjmeopbkbaaGraph
import Derived.Test.YtgkofjmeopbkbaaInsert
import Derived.Test.YtgkofjmeopbkbaaKeys
import Derived.Test.YtgkofjmeopbkbaaLibSort
import Derived.Test.YtgkofjmeopbkbaaShelf
set_option linter.unusedVariables false
namespace Go.Proofs.Ytgkofjmeopbkbaa
open Go Go.RowKit


theorem w64 {x : Int} (h : -9223372036854775808 ≤ x ∧ x ≤ 9223372036854775807) : IntKind.i64.wrap x = x := by rw [IntKind.wrap_i64]; omega
theorem chk_pos {α : Type} {c : Prop} [Decidable c] {x : Option α} (h : c) : chk c x = x := if_pos h
theorem at?_lt {α : Type} {xs : List α} {k : Nat} (h : k < xs.length) : at? xs (k : Int) = some xs[k] := by rw [at?_nat]; exact List.getElem?_eq_getElem h
theorem wS {k : Nat} (h : k < 9223372036854775807) : IntKind.i64.wrap ((k : Int) + 1) = ((k + 1 : Nat) : Int) := by rw [w64 (by omega)]; rfl
theorem nodup_le {α : Type} [DecidableEq α] : ∀ {l r : List α}, l.Nodup → (∀ x ∈ l, x ∈ r) → l.length ≤ r.length
  | [], _, _, _ => Nat.zero_le _
  | x :: l, r, h, hs => by
    have h1 := List.nodup_cons.1 h
    have hx := hs x List.mem_cons_self
    have h2 := nodup_le (r := r.erase x) h1.2 fun y hy => (List.mem_erase_of_ne (fun e => h1.1 (by rw [← e]; exact hy))).2 (hs y (List.mem_cons_of_mem _ hy))
    rw [List.length_erase_of_mem hx] at h2
    have := List.length_pos_of_mem hx
    rw [List.length_cons]; omega

section
variable {K V : Type} [DecidableEq K]
end



def m_credencelaw18_pick_J1 (k_4 : Int) : Option Int :=
  some k_4

def m_credencelaw18_pick (p0_i : Int) (p1_n : Int) : Option Int :=
  chk (p1_n ≠ 0) (if (decide ((Int.tmod p0_i p1_n) < 0)) = true then (m_credencelaw18_pick_J1 (IntKind.i64.wrap ((Int.tmod p0_i p1_n) + p1_n))) else (m_credencelaw18_pick_J1 (Int.tmod p0_i p1_n)))

set_option maxRecDepth 100000 in
set_option maxHeartbeats 2000000 in
theorem c_credencelaw18_pick (col : Col) (w0 : World) (p0_i : Int) (p1_n : Int) (r : Int) (hm : m_credencelaw18_pick p0_i p1_n = some r) :
    Calls Try.prog 48 #[(.int .i64 p0_i), (.int .i64 p1_n)] w0 (fun e w' => e = .returned ((.int .i64 r)) ∧ Below w0.heap.size w0 w') := by
  refine calls_of1 4 (m := 15) (args := [(.int .i64 p0_i), (.int .i64 p1_n)]) Try.func48 rfl rfl rfl rfl rfl ?_
  rw [m_credencelaw18_pick.eq_1] at hm
  have hst := St.start col w0
  refine wseq ?_
  refine wregion ?_
  refine lv (v := (.int .i64 0)) rfl rfl (r_assign rfl) ?_
  refine lnil ?_
  refine wseq ?_
  refine wregion ?_
  refine lv (v := (.int .i64 p0_i)) rfl rfl (r_move rfl) ?_
  refine lv (v := (.int .i64 p1_n)) rfl rfl (r_move rfl) ?_
  obtain ⟨h0_1, hm⟩ := chk_some hm
  refine lv (v := (.int .i64 (Int.tmod p0_i p1_n))) rfl rfl (r_rem p0_i p1_n rfl rfl h0_1) ?_
  refine lv (v := (.int .i64 (Int.tmod p0_i p1_n))) rfl rfl (r_assign rfl) ?_
  refine lnil ?_
  refine wseq ?_
  refine Wp.cut (fun f w_2 => ∃ (col_3 : Col) (k_4 : Int), m_credencelaw18_pick_J1 k_4 = some r ∧ St w0 (col0 col) col_3 w_2 ∧ f 5 = (.int .i64 k_4) ∧ f 1000000 = (enc [])) ?_ ?_
  · intro f w_2 hJ
    obtain ⟨col_3, k_4, hm, hst, hs5, hs1000000⟩ := hJ
    rw [m_credencelaw18_pick_J1.eq_1] at hm
    refine .ld (d := 5) (v := (.int .i64 k_4)) hs5 ?_
    refine .ld (d := 1000000) (v := (enc [])) hs1000000 ?_
    clear hs5 hs1000000
    refine wseq ?_
    refine wregion ?_
    refine lv (v := (.int .i64 k_4)) rfl rfl (r_move rfl) ?_
    refine lv (v := (.int .i64 k_4)) rfl rfl (r_assign rfl) ?_
    refine lnil ?_
    refine wret ?_
    cases hm
    exact ⟨rfl, rfl, hst.below⟩
  · refine wseq ?_
    refine wregion ?_
    refine lv (v := (.int .i64 (Int.tmod p0_i p1_n))) rfl rfl (r_move rfl) ?_
    refine lv (v := (.bool (decide ((Int.tmod p0_i p1_n) < 0)))) rfl rfl (r_lss (Int.tmod p0_i p1_n) 0 rfl rfl) ?_
    refine lnil ?_
    refine wcond (decide ((Int.tmod p0_i p1_n) < 0)) rfl (fun hb => ?_) (fun hb => ?_)
    · rw [if_pos hb] at hm
      clear hb
      refine wregion ?_
      refine lv (v := (.int .i64 (Int.tmod p0_i p1_n))) rfl rfl (r_move rfl) ?_
      refine lv (v := (.int .i64 p1_n)) rfl rfl (r_move rfl) ?_
      refine lv (v := (.int .i64 (IntKind.i64.wrap ((Int.tmod p0_i p1_n) + p1_n)))) rfl rfl (r_add (Int.tmod p0_i p1_n) p1_n rfl rfl) ?_
      refine lv (v := (.int .i64 (IntKind.i64.wrap ((Int.tmod p0_i p1_n) + p1_n)))) rfl rfl (r_assign rfl) ?_
      refine lnil ?_
      exact ⟨(col0 col), (IntKind.i64.wrap ((Int.tmod p0_i p1_n) + p1_n)), hm, hst, rfl, rfl⟩
    · rw [if_neg (by rw [hb]; decide)] at hm
      clear hb
      refine wskip ?_
      exact ⟨(col0 col), (Int.tmod p0_i p1_n), hm, hst, rfl, rfl⟩



def m_graph_New (p0_n : Int) : Option ((Option (List (List Bool))) × Int) :=
  if p0_n < 0 ∨ 1024 < p0_n then some (none, 3) else some (some (List.replicate p0_n.toNat (List.replicate p0_n.toNat false)), 0)

set_option maxRecDepth 100000 in
set_option maxHeartbeats 2000000 in
theorem c_graph_New (c1 : Nat) (col : Col) (w0 : World) (p0_n : Int) (r : ((Option (List (List Bool))) × Int)) (hm : m_graph_New p0_n = some r) :
    Calls Try.prog 51 #[(.int .i64 p0_n)] w0 (fun e w' => ∃ (col' : Col) (rv1 : Value), e = .returned (.tuple #[rv1, (.int .i64 r.2)]) ∧ Grow col w0 col' w' ∧ optP rv1 r.1 (fun (d : List (List Bool)) => ∃ (o9 : GObj), rv1 = .pointer (some ⟨o9.g, 0, none⟩) ∧ GO 85 86 c1 col' w' o9 d)) := by
  refine calls_of2 2 3 (m := 33) (args := [(.int .i64 p0_n)]) Try.func51 rfl rfl rfl rfl rfl ?_
  unfold m_graph_New at hm
  have hst := St.start col w0
  refine wseq ?_
  refine wregion ?_
  refine lv (v := (.pointer none)) rfl rfl (r_assign rfl) ?_
  refine lv (v := (.int .i64 0)) rfl rfl (r_assign rfl) ?_
  refine lnil ?_
  refine wseq ?_
  refine wseq ?_
  refine Wp.cut (fun f w_2 => ∃ (col_3 : Col) (v_4 : Bool), v_4 = decide (p0_n < 0 ∨ 1024 < p0_n) ∧ St w0 (col0 col) col_3 w_2 ∧ f 0 = (.int .i64 p0_n) ∧ f 11 = (.bool v_4) ∧ f 1000000 = (enc [])) ?_ ?_
  · intro f w_2 hJ
    obtain ⟨col_3, v_4, hv, hst, hs0, hs11, hs1000000⟩ := hJ
    refine .ld (d := 0) (v := (.int .i64 p0_n)) hs0 ?_
    refine .ld (d := 11) (v := (.bool v_4)) hs11 ?_
    refine .ld (d := 1000000) (v := (enc [])) hs1000000 ?_
    clear hs0 hs11 hs1000000
    refine wcond (v_4) rfl (fun hb => ?_) (fun hb => ?_)
    · rw [if_pos (of_decide_eq_true (hv ▸ hb))] at hm
      clear hb
      refine wseq ?_
      refine wregion ?_
      refine lv (v := (.pointer none)) rfl rfl (r_assign rfl) ?_
      refine lv (v := (.int .i64 3)) rfl rfl (r_assign rfl) ?_
      refine lnil ?_
      refine wret ?_
      cases hm
      exact ⟨rfl, colF w0.heap.size col col_3 (fun n => 0), (.pointer none), rfl, hst.fin (fun n => 0), optP_no⟩
    · have hn : ¬ (p0_n < 0 ∨ 1024 < p0_n) := of_decide_eq_false (hv ▸ hb)
      rw [if_neg hn] at hm
      clear hb
      have h0 : 0 ≤ p0_n := by omega
      have h1 : p0_n ≤ 1024 := by omega
      have heq : p0_n = (p0_n.toNat : Int) := by omega
      generalize hN : p0_n.toNat = n0 at hm heq
      have hn0 : n0 ≤ 1024 := by omega
      refine wskip ?_
      refine wseq ?_
      refine wregion ?_
      refine lv (v := (.int .i64 p0_n)) rfl rfl (r_move rfl) ?_
      refine l_make (col := col_3) (w := w_2) (r := Rep.mref) (n := n0) (x0 := none) 2 rfl Try.underlying83 Try.t86 rfl rfl rfl rfl rfl (congrArg (Value.int _) heq) (congrArg (Value.int _) heq) (show n0 * 8 ≤ 281474976710656 by omega) (by simp only [maxLen]; omega) ⟨rfl, rfl⟩ ?_
      intro a_2 w_3 col_4 hg_5 hR
      replace hst := hst.grow hg_5
      refine lv (v := (.agg #[.slice a_2 (List.replicate n0 (none : Option Nat)).length n0])) rfl rfl (r_build (l := [_]) (qs := [(0, 1)]) Try.underlying85 Try.zeroValue85 ⟨rfl, Try.sizeOf83, trivial⟩ rfl) ?_
      refine l_box (col := col_4) (v := .agg #[.slice a_2 (List.replicate n0 (none : Option Nat)).length n0]) 1 rfl rfl ?_
      intro g w_4 col_5 hg_6 hB
      replace hst := hst.grow hg_6
      replace hR := hR.gr hg_6
      replace hB : Box 85 1 col_5 w_4 g #[.slice a_2 n0 n0] := by rw [List.length_replicate] at hB; exact hB
      refine lv (v := (.pointer (some ⟨g, 0, none⟩))) rfl rfl (r_assign rfl) ?_
      refine lnil ?_
      refine wseq ?_
      refine wseq ?_
      refine wregion ?_
      refine lv (v := (.pointer (some ⟨g, 0, none⟩))) rfl rfl (r_move rfl) ?_
      refine lv (v := (.pointer (some ⟨g, 0, none⟩))) rfl rfl (r_nilCheck rfl) ?_
      refine lv (v := (.pointer ((some (⟨g, 0, none⟩ : Addr)).map (·.add 0)))) rfl rfl (r_fieldAddr (sz := 1) (off := 0) Try.underlying85 rfl Try.sizeOf83 (by decide) rfl rfl ⟨_, _, rfl⟩) ?_
      refine lv (v := (.slice a_2 n0 n0)) rfl rfl (r_ld Try.isAgg83 rfl (hB.atN.nth (q := 0) (v := .slice a_2 n0 n0) rfl)) ?_
      refine lv (v := (.int .i64 (n0 : Int))) rfl rfl (r_len Try.underlying83 rfl) ?_
      refine lv (v := (.int .i64 0)) rfl rfl (r_move rfl) ?_
      refine lnil ?_
      refine wblock ?_
      refine wloop (fun n f w => ∃ (col' : Col) (k : Nat) (bs : List Nat), k + n = n0 ∧ bs.length = k ∧ bs.Nodup ∧ St w0 (col0 col) col' w ∧ Box 85 1 col' w g #[.slice a_2 n0 n0] ∧ Own Rep.mref 86 2 col' w a_2 n0 (bs.map some ++ List.replicate n none) ∧ (∀ b ∈ bs, MapB 3 col' w b (List.replicate n0 false)) ∧
        f 21 = (.int .i64 (k : Int)) ∧ f 20 = (.int .i64 (n0 : Int)) ∧ f 4 = (.pointer (some ⟨g, 0, none⟩)) ∧ f 1000000 = (enc [])) n0 ⟨col_5, 0, [], by omega, rfl, by simp, hst, hB, hR, by simp, rfl, rfl, rfl, rfl⟩ ?_
      clear hst hB hR
      intro n f w hI
      obtain ⟨col', k, bs, hk, hbl, hnd, hst, hB, hR, hMs, hs21, hs20, hs4, hs1000000⟩ := hI
      refine .ld (d := 21) (v := (.int .i64 (k : Int))) hs21 ?_
      refine .ld (d := 20) (v := (.int .i64 (n0 : Int))) hs20 ?_
      refine .ld (d := 4) (v := (.pointer (some ⟨g, 0, none⟩))) hs4 ?_
      refine .ld (d := 1000000) (v := (enc [])) hs1000000 ?_
      clear hs21 hs20 hs4 hs1000000
      refine wseq ?_
      refine wregion ?_
      refine lv (v := (.bool (decide ((k : Int) < (n0 : Int))))) rfl rfl (r_lss (k : Int) (n0 : Int) rfl rfl) ?_
      refine lnil ?_
      refine wseq ?_
      cases n with
      | zero =>
        have hkb : decide ((k : Int) < (n0 : Int)) = false := decide_eq_false (by omega)
        refine wcondF (congrArg Value.bool hkb) ?_
        refine wexit (inB_hit ?_)
        refine wseq ?_
        refine wregion ?_
        refine lv (v := (.pointer (some ⟨g, 0, none⟩))) rfl rfl (r_move rfl) ?_
        refine lv (v := (.pointer (some ⟨g, 0, none⟩))) rfl rfl (r_assign rfl) ?_
        refine lv (v := (.int .i64 0)) rfl rfl (r_assign rfl) ?_
        refine lnil ?_
        refine wret ?_
        cases hm
        rw [List.replicate_zero, List.append_nil] at hR
        have hk0 : k = n0 := by omega
        subst hk0
        have hl : (List.replicate k (List.replicate k false)).length = k := List.length_replicate
        refine ⟨rfl, colF w0.heap.size col col' (fun n => bif Nat.beq n 1 then c1 else bif Nat.beq n 2 then c1 else bif Nat.beq n 3 then c1 else 0), (.pointer (some ⟨g, 0, none⟩)), rfl, hst.fin _, optP_of ⟨⟨g, a_2, k, bs⟩, rfl, ?_, hst.finOwn (g := (fun n => bif Nat.beq n 1 then c1 else bif Nat.beq n 2 then c1 else bif Nat.beq n 3 then c1 else 0)) rfl hR (by decide) (by decide) rfl, ?_, hnd, ?_, ?_⟩⟩
        · rw [hl]; exact hst.finBox (G := (fun n => bif Nat.beq n 1 then c1 else bif Nat.beq n 2 then c1 else bif Nat.beq n 3 then c1 else 0)) hB (by decide) (by decide) rfl
        · rw [hl]; exact hbl
        · intro r hr; rw [List.eq_of_mem_replicate hr, hl]; simp
        · intro i b r h1 h2
          rw [List.getElem?_replicate] at h2
          split at h2
          · cases h2
            exact hst.finMapB (G := (fun n => bif Nat.beq n 1 then c1 else bif Nat.beq n 2 then c1 else bif Nat.beq n 3 then c1 else 0)) (hMs b (List.mem_of_getElem? h1)) (by decide) (by decide) rfl
          · cases h2
      | succ n =>
        have hkb : decide ((k : Int) < (n0 : Int)) = true := decide_eq_true (by omega)
        refine wcondT (congrArg Value.bool hkb) ?_
        refine wskip ?_
        refine wseq ?_
        refine wblock ?_
        refine wseq ?_
        refine wregion ?_
        refine lv (v := (.int .i64 (k : Int))) rfl rfl (r_move rfl) ?_
        refine lv (v := (.int .i64 (k : Int))) rfl rfl (r_assign rfl) ?_
        refine lnil ?_
        refine wregion ?_
        refine lv (v := (.pointer (some ⟨g, 0, none⟩))) rfl rfl (r_move rfl) ?_
        refine lv (v := (.pointer (some ⟨g, 0, none⟩))) rfl rfl (r_nilCheck rfl) ?_
        refine lv (v := (.pointer ((some (⟨g, 0, none⟩ : Addr)).map (·.add 0)))) rfl rfl (r_fieldAddr (sz := 1) (off := 0) Try.underlying85 rfl Try.sizeOf83 (by decide) rfl rfl ⟨_, _, rfl⟩) ?_
        refine lv (v := (.slice a_2 n0 n0)) rfl rfl (r_ld Try.isAgg83 rfl (hB.atN.nth (q := 0) (v := .slice a_2 n0 n0) rfl)) ?_
        refine lv (v := (.int .i64 (k : Int))) rfl rfl (r_move rfl) ?_
        refine l_gmake (col := col') 4 n0 rfl ?_
        intro b w_7 col_8 hg_9 hM
        replace hst := hst.grow hg_9
        replace hB := hB.gr hg_9
        replace hR := hR.gr hg_9
        replace hMs := fun x hx => (hMs x hx).gr hg_9
        have hat : at? (bs.map some ++ List.replicate (n + 1) none) (k : Int) = some (none : Option Nat) := by
          rw [at?_nat, List.getElem?_append_right (by simp [hbl]), List.length_map, hbl, Nat.sub_self, List.replicate_succ]; rfl
        refine lv (v := (sptr a_2 (Int.toNat (k : Int) * 1))) rfl rfl (r_idx Try.underlying83 Try.sizeOf86 rfl rfl (by omega) (by omega) (hR.addr hat)) ?_
        refine l_store (x1 := some b) (v := .map (some b)) hR hat rfl Try.sizeOf86 ⟨rfl, rfl⟩ rfl rfl (by decide) ?_
        intro w_8 hk_1 hs_1 hR2
        replace hst := hst.kp hk_1 hs_1 (by decide) (by decide)
        replace hB := hB.kp hk_1 (by decide)
        replace hM := hM.kp hk_1 (by decide) (by decide)
        replace hMs := fun x hx => (hMs x hx).kp hk_1 (by decide) (by decide)
        clear hR
        have hnb : b ∉ bs := fun hb => by
          have h1 := (hMs b hb).1
          rw [hM.1] at h1; cases h1
        refine lnil ?_
        refine wregion ?_
        refine lv (v := (.int .i64 (IntKind.i64.wrap ((k : Int) + 1)))) rfl rfl (r_add (k : Int) 1 rfl rfl) ?_
        refine lv (v := (.int .i64 (IntKind.i64.wrap ((k : Int) + 1)))) rfl rfl (r_move rfl) ?_
        refine lnil ?_
        replace hst := hst.recol 4 3 (by decide) (by decide)
        replace hB := hB.recol 4 3 (by decide)
        replace hR2 := hR2.recol 4 3 (by decide)
        replace hM := hM.recolSelf 3
        replace hMs := fun x hx => (hMs x hx).recol 4 3 (by decide)
        have hset : (bs.map some ++ List.replicate (n + 1) none).set (Int.toNat (k : Int)) (some b) = (bs ++ [b]).map some ++ List.replicate n none := by
          rw [Int.toNat_natCast, List.set_append_right _ _ (by simp [hbl]), List.length_map, hbl, Nat.sub_self, List.replicate_succ]
          simp
        rw [hset] at hR2
        refine ⟨n, by omega, ⟨_, k + 1, bs ++ [b], by omega, by simp [hbl], ?_, hst, hB, hR2, ?_, ?_, rfl, rfl, rfl⟩⟩
        · rw [List.nodup_append]
          exact ⟨hnd, by simp, fun x hx y hy e => by simp only [List.mem_singleton] at hy; subst hy; subst e; exact hnb hx⟩
        · intro x hx
          rcases List.mem_append.1 hx with hx | hx
          · exact hMs x hx
          · simp only [List.mem_singleton] at hx; subst hx; exact hM
        · exact congrArg (Value.int .i64) (wrap_succ (by simp only [maxLen]; omega))
  · refine wregion ?_
    refine lv (v := (.int .i64 p0_n)) rfl rfl (r_move rfl) ?_
    refine lv (v := (.bool (decide (p0_n < 0)))) rfl rfl (r_lss p0_n 0 rfl rfl) ?_
    refine lv (v := (.bool (decide (p0_n < 0)))) rfl rfl (r_move rfl) ?_
    by_cases hg_5 : (decide (p0_n < 0)) = true
    · refine lp (b := decide (p0_n < 0)) 8 rfl rfl rfl rfl (by rw [hg_5]; rfl) ?_
      refine lp (b := decide (p0_n < 0)) 8 rfl rfl rfl rfl (by rw [hg_5]; rfl) ?_
      refine lv (v := (.bool true)) rfl rfl (r_pickT (congrArg Value.bool hg_5) rfl) ?_
      refine lnil ?_
      exact ⟨(col0 col), true, by have := of_decide_eq_true hg_5; simp [this], hst, rfl, rfl, rfl⟩
    · replace hg_5 := Bool.eq_false_iff.2 hg_5
      refine lg (b := decide (p0_n < 0)) 8 rfl rfl rfl (by rw [hg_5]; rfl) ?_
      refine lv (v := (.int .i64 p0_n)) rfl rfl (r_move rfl) ?_
      refine lg (b := decide (p0_n < 0)) 8 rfl rfl rfl (by rw [hg_5]; rfl) ?_
      refine lv (v := (.bool (decide (1024 < p0_n)))) rfl rfl (r_gtr p0_n 1024 rfl rfl) ?_
      refine lv (v := (.bool (decide (1024 < p0_n)))) rfl rfl (r_pickF (congrArg Value.bool hg_5) rfl) ?_
      refine lnil ?_
      exact ⟨(col0 col), (decide (1024 < p0_n)), by have := of_decide_eq_false hg_5; simp [this], hst, rfl, rfl, rfl⟩


set_option maxRecDepth 100000 in
theorem el26_66 : ElemOk Try.prog 26 1 24 := ⟨Try.t26, _, rfl, rfl, rfl, rfl, rfl⟩

def m_credenceref15_New_L1 (N : Nat) (p0_n : Int) : Nat → (List (List Bool)) → Int → Option ((Option ((List (List Bool)))) × Int)
  | 0, _, _ => none
  | n_10 + 1, v_13, i_17 => if (decide (i_17 < p0_n)) = true then (chk ((Int.toNat p0_n) * 1 ≤ 281474976710656 ∧ (Int.toNat p0_n) ≤ maxLen ∧ 0 ≤ p0_n) (chk ((v_13.length + [List.replicate (Int.toNat p0_n) (false : Bool)].length) * 24 ≤ 140737488355328 ∧ v_13.length + [List.replicate (Int.toNat p0_n) (false : Bool)].length ≤ maxLen) ((m_credenceref15_New_L1 N p0_n n_10) (v_13 ++ [List.replicate (Int.toNat p0_n) (false : Bool)]) (IntKind.i64.wrap (i_17 + 1))))) else (some ((some v_13), 0))

def m_credenceref15_New_J1 (N : Nat) (p0_n : Int) (v_4 : Bool) : Option ((Option ((List (List Bool)))) × Int) :=
  if v_4 = true then (some (none, 3)) else (m_credenceref15_New_L1 N p0_n N ([] : List (List Bool)) 0)

def m_credenceref15_New (N : Nat) (p0_n : Int) : Option ((Option ((List (List Bool)))) × Int) :=
  if (decide (p0_n < 0)) = true then (m_credenceref15_New_J1 N p0_n true) else (m_credenceref15_New_J1 N p0_n (decide (1024 < p0_n)))

set_option maxRecDepth 100000 in
set_option maxHeartbeats 2000000 in
theorem c_credenceref15_New (N : Nat) (c1 : Nat) (c2 : Nat) (col : Col) (w0 : World) (p0_n : Int) (r : ((Option ((List (List Bool)))) × Int)) (hm : m_credenceref15_New N p0_n = some r) :
    Calls Try.prog 66 #[(.int .i64 p0_n)] w0 (fun e w' => ∃ (col' : Col) (rv1 : Value), e = .returned (.tuple #[rv1, (.int .i64 r.2)]) ∧ Grow col w0 col' w' ∧ optP rv1 r.1 (fun (d : ((List (List Bool)))) => ∃ (g9 : Nat) (a9 : Option Addr) (cap9 : Nat), rv1 = .pointer (some ⟨g9, 0, none⟩) ∧ Box 102 c1 col' w' g9 #[(.slice a9 d.length cap9)] ∧ Own (Rep.row 4 Rep.bool) 26 c2 col' w' a9 cap9 d)) := by
  refine calls_of2 2 3 (m := 31) (args := [(.int .i64 p0_n)]) Try.func66 rfl rfl rfl rfl rfl ?_
  rw [m_credenceref15_New.eq_1] at hm
  have hst := St.start col w0
  refine wseq ?_
  refine wregion ?_
  refine lv (v := (.pointer none)) rfl rfl (r_assign rfl) ?_
  refine lv (v := (.int .i64 0)) rfl rfl (r_assign rfl) ?_
  refine lnil ?_
  refine wseq ?_
  refine wseq ?_
  refine Wp.cut (fun f w_2 => ∃ (col_3 : Col) (v_4 : Bool), m_credenceref15_New_J1 N p0_n v_4 = some r ∧ St w0 (col0 col) col_3 w_2 ∧ f 0 = (.int .i64 p0_n) ∧ f 11 = (.bool v_4) ∧ f 1000000 = (enc [])) ?_ ?_
  · intro f w_2 hJ
    obtain ⟨col_3, v_4, hm, hst, hs0, hs11, hs1000000⟩ := hJ
    rw [m_credenceref15_New_J1.eq_1] at hm
    refine .ld (d := 0) (v := (.int .i64 p0_n)) hs0 ?_
    refine .ld (d := 11) (v := (.bool v_4)) hs11 ?_
    refine .ld (d := 1000000) (v := (enc [])) hs1000000 ?_
    clear hs0 hs11 hs1000000
    refine wcond (v_4) rfl (fun hb => ?_) (fun hb => ?_)
    · rw [if_pos hb] at hm
      clear hb
      refine wseq ?_
      refine wregion ?_
      refine lv (v := (.pointer none)) rfl rfl (r_assign rfl) ?_
      refine lv (v := (.int .i64 3)) rfl rfl (r_assign rfl) ?_
      refine lnil ?_
      refine wret ?_
      cases hm
      exact ⟨rfl, colF w0.heap.size col col_3 (fun n => 0), (.pointer none), rfl, hst.fin (fun n => 0), optP_no⟩
    · rw [if_neg (by rw [hb]; decide)] at hm
      clear hb
      refine wskip ?_
      refine wseq ?_
      refine wregion ?_
      refine lv (v := (.agg #[(.slice none (([] : List (List Bool)).length) 0)])) rfl rfl (r_build (l := [_]) (qs := [(0, 1)]) Try.underlying102 Try.zeroValue102 ⟨rfl, Try.sizeOf100, trivial⟩ rfl) ?_
      refine l_box (col := col_3) (v := (.agg #[(.slice none (([] : List (List Bool)).length) 0)])) 1 rfl rfl ?_
      intro g_5 w_6 col_7 hg_8 hb_9
      replace hst := hst.grow hg_8
      replace hb_9 : Box 102 1 col_7 w_6 g_5 #[(.slice none (([] : List (List Bool)).length) 0)] := hb_9
      refine lv (v := (.pointer (some ⟨g_5, 0, none⟩))) rfl rfl (r_assign rfl) ?_
      refine lnil ?_
      refine wseq ?_
      refine wseq ?_
      refine wregion ?_
      refine lv (v := (.int .i64 0)) rfl rfl (r_assign rfl) ?_
      refine lnil ?_
      refine wblock ?_
      refine wloop (fun n f w_11 => ∃ (col_12 : Col) (a_14 : Option Addr) (cap_15 : Nat) (v_13 : List (List Bool)) (i_17 : Int) (n_10 : Nat), n_10 = n ∧ m_credenceref15_New_L1 N p0_n n_10 v_13 i_17 = some r ∧ St w0 (col0 col) col_12 w_11 ∧ Own (Rep.row 4 Rep.bool) 26 2 col_12 w_11 a_14 cap_15 v_13 ∧ Box 102 1 col_12 w_11 g_5 #[(.slice a_14 v_13.length cap_15)] ∧ f 0 = (.int .i64 p0_n) ∧ f 4 = (.pointer (some ⟨g_5, 0, none⟩)) ∧ f 5 = (.int .i64 i_17) ∧ f 1000000 = (enc [])) N ⟨col_7, none, 0, ([] : List (List Bool)), 0, N, rfl, hm, hst, Own.nil, hb_9, rfl, rfl, rfl, rfl⟩ ?_
      clear hm; intro n f w_11 hI
      obtain ⟨col_12, a_14, cap_15, v_13, i_17, n_10, hn, hm, hst, h_16, hb_9, hs0, hs4, hs5, hs1000000⟩ := hI
      subst hn
      refine .ld (d := 0) (v := (.int .i64 p0_n)) hs0 ?_
      refine .ld (d := 4) (v := (.pointer (some ⟨g_5, 0, none⟩))) hs4 ?_
      refine .ld (d := 5) (v := (.int .i64 i_17)) hs5 ?_
      refine .ld (d := 1000000) (v := (enc [])) hs1000000 ?_
      clear hs0 hs4 hs5 hs1000000
      cases n_10 with
      | zero => rw [m_credenceref15_New_L1.eq_1] at hm; cases hm
      | succ n_10 =>
        rw [m_credenceref15_New_L1.eq_2] at hm
        refine wseq ?_
        refine wseq ?_
        refine wregion ?_
        refine lv (v := (.int .i64 i_17)) rfl rfl (r_move rfl) ?_
        refine lv (v := (.int .i64 p0_n)) rfl rfl (r_move rfl) ?_
        refine lv (v := (.bool (decide (i_17 < p0_n)))) rfl rfl (r_lss i_17 p0_n rfl rfl) ?_
        refine lnil ?_
        refine wcond (decide (i_17 < p0_n)) rfl (fun hb => ?_) (fun hb => ?_)
        · rw [if_pos hb] at hm
          clear hb
          refine wskip ?_
          refine wseq ?_
          refine wblock ?_
          refine wmix (col := col_12) [(0, 1), (1, 1), (2, 1), (3, 1), (4, 0), (5, 1), (6, 3), (7, 3), (8, 2), (9, 1), (10, 1), (11, 2)] (by kernel_rfl) (by kernel_rfl) ?_
          refine xu (v := (.pointer (some ⟨g_5, 0, none⟩))) rfl rfl (fun _ => r_move rfl) ?_
          refine xu (v := (.pointer (some ⟨g_5, 0, none⟩))) rfl rfl (fun _ => r_move rfl) ?_
          refine xu (v := (.pointer (some ⟨g_5, 0, none⟩))) rfl rfl (fun _ => r_nilCheck rfl) ?_
          refine xu (v := (.pointer ((some (⟨g_5, 0, none⟩ : Addr)).map (·.add 0)))) rfl rfl (fun _ => r_fieldAddr (sz := 1) (off := 0) Try.underlying102 rfl Try.sizeOf100 (by decide) rfl rfl ⟨_, _, rfl⟩) ?_
          refine xv (v := (.slice a_14 v_13.length cap_15)) rfl rfl (fun _ hC => r_ld Try.isAgg100 rfl (((hb_9.atN).nth (q := 0) (v := (.slice a_14 v_13.length cap_15)) rfl).gr (Grow.of_below (col := col_12) hC.below))) ?_
          refine xu (v := (.int .i64 p0_n)) rfl rfl (fun _ => r_move rfl) ?_
          refine xe rfl rfl ?_
          intro w_18 hC0
          have hC : Grow col_12 w_11 col_12 w_18 := .of_below hC0.below
          replace h_16 := h_16.gr hC
          replace hb_9 := hb_9.gr hC
          replace hst := hst.grow hC
          obtain ⟨hb_19, hm⟩ := chk_some hm
          refine l_make (col := col_12) (w := w_18) (r := Rep.bool) (n := (Int.toNat p0_n)) (x0 := false) 3 rfl Try.underlying26 Try.t4 rfl rfl rfl rfl rfl (congrArg (Value.int _) (Int.toNat_of_nonneg hb_19.2.2).symm) (congrArg (Value.int _) (Int.toNat_of_nonneg hb_19.2.2).symm) hb_19.1 hb_19.2.1 (rd_bool false) ?_
          intro a_20 w_21 col_22 hg_23 h_24
          replace h_16 := h_16.gr hg_23
          replace hb_9 := hb_9.gr hg_23
          replace hst := hst.grow hg_23
          refine lnil ⟨fun w' => Grow col_22 w_21 col_22 w', Grow.refl _ _, fun _ _ h => cls hC0 hg_23 h, ?_⟩
          refine xe rfl rfl ?_
          intro w_25 hC0
          have hC : Grow col_22 w_21 col_22 w_25 := .of_below hC0.below
          replace h_16 := h_16.gr hC
          replace h_24 := h_24.gr hC
          replace hb_9 := hb_9.gr hC
          replace hst := hst.grow hC
          refine l_lit (col := col_22) (r := (Rep.row 4 Rep.bool)) (xs := [List.replicate (Int.toNat p0_n) (false : Bool)]) [(.slice a_20 ((List.replicate (Int.toNat p0_n) (false : Bool)).length) (Int.toNat p0_n))] 3 rfl Try.underlying100 el26_66 rfl rfl rfl rfl rfl rfl (by intro v hv; simp only [List.mem_cons, List.not_mem_nil, or_false] at hv; subst hv; rfl) (RowsH.cons1 (cs := [(.slice a_20 ((List.replicate (Int.toNat p0_n) (false : Bool)).length) (Int.toNat p0_n))]) h_24.has Rows.nil0) ?_
          intro a_26 w_27 col_28 hg_29 h_30
          replace h_16 := h_16.gr hg_29
          replace h_24 := h_24.gr hg_29
          replace hb_9 := hb_9.gr hg_29
          replace hst := hst.grow hg_29
          refine lnil ⟨fun w' => Grow col_28 w_27 col_28 w', Grow.refl _ _, fun _ _ h => cls hC0 hg_29 h, ?_⟩
          refine xe rfl rfl ?_
          intro w_31 hC0
          have hC : Grow col_28 w_27 col_28 w_31 := .of_below hC0.below
          replace h_16 := h_16.gr hC
          replace h_30 := h_30.gr hC
          replace hb_9 := hb_9.gr hC
          replace hst := hst.grow hC
          obtain ⟨hb_32, hm⟩ := chk_some hm
          refine l_ext (col := col_28) (w := w_31) (r := (Rep.row 4 Rep.bool)) (c := 2) (c2 := 3) (h_16.ex) (h_30.srcC (by decide)) rfl Try.underlying100 el26_66 rfl rfl rfl hb_32.1 hb_32.2 (by decide) ?_
          intro a_33 cap_34 w_35 col_36 hk_37 h_38
          clear h_30
          replace hb_9 := hb_9.kpp hk_37 rfl
          replace hst := hst.kpp hk_37 rfl rfl
          clear h_16
          refine lnil ⟨fun w' => Grow col_36 w_35 col_36 w', Grow.refl _ _, fun h => absurd h (by decide), ?_⟩
          refine xu (v := (.pointer (some ⟨g_5, 0, none⟩))) rfl rfl (fun _ => r_nilCheck rfl) ?_
          refine xu (v := (.pointer ((some (⟨g_5, 0, none⟩ : Addr)).map (·.add 0)))) rfl rfl (fun _ => r_fieldAddr (sz := 1) (off := 0) Try.underlying102 rfl Try.sizeOf100 (by decide) rfl rfl ⟨_, _, rfl⟩) ?_
          refine xe rfl rfl ?_
          intro w_39 hC0
          have hC : Grow col_36 w_35 col_36 w_39 := .of_below hC0.below
          replace h_38 := h_38.gr hC
          replace hb_9 := hb_9.gr hC
          replace hst := hst.grow hC
          refine l_bstoreF (off := 0) (v := (.slice a_33 ((v_13 ++ [List.replicate (Int.toNat p0_n) (false : Bool)]).length) cap_34)) hb_9 Try.sizeOf100 rfl rfl (by intro u hu; simp only [Value.cells, List.mem_cons, List.not_mem_nil, or_false] at hu; subst hu; rfl) rfl rfl ?_
          intro w_40 hk_41 hs_42 hb_43
          replace h_38 := h_38.kp hk_41 (by decide) (by decide)
          replace hst := hst.kp hk_41 hs_42 (by decide) (by decide)
          clear hb_9
          replace hb_43 : Box 102 1 col_36 w_40 g_5 #[(.slice a_33 ((v_13 ++ [List.replicate (Int.toNat p0_n) (false : Bool)]).length) cap_34)] := hb_43
          refine lnil ⟨fun w' => Grow col_36 w_40 col_36 w', Grow.refl _ _, fun h => absurd h (by decide), ?_⟩
          have h_44 := h_38.new
          clear h_38
          refine xnil ?_
          intro w_45 hC
          replace hC : Grow col_36 w_40 col_36 w_45 := .of_below hC.below
          replace h_44 := h_44.gr hC
          replace hb_43 := hb_43.gr hC
          replace hst := hst.grow hC
          refine wregion ?_
          refine lv (v := (.int .i64 i_17)) rfl rfl (r_move rfl) ?_
          refine lv (v := (.int .i64 (IntKind.i64.wrap (i_17 + 1)))) rfl rfl (r_add i_17 1 rfl rfl) ?_
          refine lv (v := (.int .i64 (IntKind.i64.wrap (i_17 + 1)))) rfl rfl (r_assign rfl) ?_
          refine lnil ?_
          exact ⟨n_10, by omega, ⟨col_36, a_33, cap_34, (v_13 ++ [List.replicate (Int.toNat p0_n) (false : Bool)]), (IntKind.i64.wrap (i_17 + 1)), n_10, rfl, hm, hst, h_44, hb_43, rfl, rfl, rfl, rfl⟩⟩
        · rw [if_neg (by rw [hb]; decide)] at hm
          clear hb
          refine wexit (inB_hit ?_)
          refine wseq ?_
          refine wregion ?_
          refine lv (v := (.pointer (some ⟨g_5, 0, none⟩))) rfl rfl (r_move rfl) ?_
          refine lv (v := (.pointer (some ⟨g_5, 0, none⟩))) rfl rfl (r_assign rfl) ?_
          refine lv (v := (.int .i64 0)) rfl rfl (r_assign rfl) ?_
          refine lnil ?_
          refine wret ?_
          cases hm
          exact ⟨rfl, colF w0.heap.size col col_12 (fun n => bif Nat.beq n 1 then c1 else bif Nat.beq n 2 then c2 else 0), (.pointer (some ⟨g_5, 0, none⟩)), rfl, hst.fin (fun n => bif Nat.beq n 1 then c1 else bif Nat.beq n 2 then c2 else 0), optP_of ⟨g_5, a_14, cap_15, rfl, hst.finBox (G := (fun n => bif Nat.beq n 1 then c1 else bif Nat.beq n 2 then c2 else 0)) hb_9 (by decide) (by decide) rfl, hst.finOwn (g := (fun n => bif Nat.beq n 1 then c1 else bif Nat.beq n 2 then c2 else 0)) rfl h_16 (by decide) (by decide) rfl⟩⟩
  · refine wregion ?_
    refine lv (v := (.int .i64 p0_n)) rfl rfl (r_move rfl) ?_
    refine lv (v := (.bool (decide (p0_n < 0)))) rfl rfl (r_lss p0_n 0 rfl rfl) ?_
    refine lv (v := (.bool (decide (p0_n < 0)))) rfl rfl (r_move rfl) ?_
    by_cases hg_46 : (decide (p0_n < 0)) = true
    · rw [if_pos hg_46] at hm
      refine lp (b := decide (p0_n < 0)) 8 rfl rfl rfl rfl (by rw [hg_46]; rfl) ?_
      refine lp (b := decide (p0_n < 0)) 8 rfl rfl rfl rfl (by rw [hg_46]; rfl) ?_
      refine lv (v := (.bool true)) rfl rfl (r_pickT (congrArg Value.bool hg_46) rfl) ?_
      refine lnil ?_
      exact ⟨(col0 col), true, hm, hst, rfl, rfl, rfl⟩
    · rw [if_neg hg_46] at hm
      replace hg_46 := Bool.eq_false_iff.2 hg_46
      refine lg (b := decide (p0_n < 0)) 8 rfl rfl rfl (by rw [hg_46]; rfl) ?_
      refine lv (v := (.int .i64 p0_n)) rfl rfl (r_move rfl) ?_
      refine lg (b := decide (p0_n < 0)) 8 rfl rfl rfl (by rw [hg_46]; rfl) ?_
      refine lv (v := (.bool (decide (1024 < p0_n)))) rfl rfl (r_gtr p0_n 1024 rfl rfl) ?_
      refine lv (v := (.bool (decide (1024 < p0_n)))) rfl rfl (r_pickF (congrArg Value.bool hg_46) rfl) ?_
      refine lnil ?_
      exact ⟨(col0 col), (decide (1024 < p0_n)), hm, hst, rfl, rfl, rfl⟩




def m_graph_Graph_in_J1 (v_4 : Bool) : Option Bool :=
  some v_4

def m_graph_Graph_in (p0_g : List (List Bool)) (p1_a : Int) : Option Bool :=
  if (decide (0 ≤ p1_a)) = true then (m_graph_Graph_in_J1 (decide (p1_a < (p0_g.length : Int)))) else (m_graph_Graph_in_J1 false)

set_option maxRecDepth 100000 in
set_option maxHeartbeats 2000000 in
theorem c_graph_Graph_in (col : Col) (w0 : World) (qc0 : Nat) (hqqc0 : qc0 ≠ 0) (o0 : GObj) (p0_g : List (List Bool)) (p1_a : Int) (h0 : GO 85 86 qc0 col w0 o0 p0_g) (r : Bool) (hm : m_graph_Graph_in p0_g p1_a = some r) :
    Calls Try.prog 54 #[(.pointer (some ⟨o0.g, 0, none⟩)), (.int .i64 p1_a)] w0 (fun e w' => e = .returned ((.bool r)) ∧ Below w0.heap.size w0 w') := by
  refine calls_of1 4 (m := 16) (args := [(.pointer (some ⟨o0.g, 0, none⟩)), (.int .i64 p1_a)]) Try.func54 rfl rfl rfl rfl rfl ?_
  rw [m_graph_Graph_in.eq_1] at hm
  have hst := St.start col w0
  replace h0 := h0.start0 hqqc0
  refine wseq ?_
  refine wregion ?_
  refine lv (v := (.bool false)) rfl rfl (r_assign rfl) ?_
  refine lnil ?_
  refine wseq ?_
  refine Wp.cut (fun f w_2 => ∃ (col_3 : Col) (v_4 : Bool), m_graph_Graph_in_J1 v_4 = some r ∧ St w0 (col0 col) col_3 w_2 ∧ f 4 = (.bool v_4) ∧ f 1000000 = (enc [])) ?_ ?_
  · intro f w_2 hJ
    obtain ⟨col_3, v_4, hm, hst, hs4, hs1000000⟩ := hJ
    rw [m_graph_Graph_in_J1.eq_1] at hm
    refine .ld (d := 4) (v := (.bool v_4)) hs4 ?_
    refine .ld (d := 1000000) (v := (enc [])) hs1000000 ?_
    clear hs4 hs1000000
    refine wret ?_
    cases hm
    exact ⟨rfl, rfl, hst.below⟩
  · refine wregion ?_
    refine lv (v := (.int .i64 p1_a)) rfl rfl (r_move rfl) ?_
    refine lv (v := (.bool (decide (0 ≤ p1_a)))) rfl rfl (r_geq p1_a 0 rfl rfl) ?_
    refine lv (v := (.bool (decide (0 ≤ p1_a)))) rfl rfl (r_move rfl) ?_
    by_cases hg_5 : (decide (0 ≤ p1_a)) = true
    · rw [if_pos hg_5] at hm
      refine lg (b := decide (0 ≤ p1_a)) 7 rfl rfl rfl (by rw [hg_5]; rfl) ?_
      refine lv (v := (.int .i64 p1_a)) rfl rfl (r_move rfl) ?_
      refine lg (b := decide (0 ≤ p1_a)) 7 rfl rfl rfl (by rw [hg_5]; rfl) ?_
      refine lv (v := (.pointer (some ⟨o0.g, 0, none⟩))) rfl rfl (r_move rfl) ?_
      refine lg (b := decide (0 ≤ p1_a)) 7 rfl rfl rfl (by rw [hg_5]; rfl) ?_
      refine lv (v := (.pointer (some ⟨o0.g, 0, none⟩))) rfl rfl (r_nilCheck rfl) ?_
      refine lg (b := decide (0 ≤ p1_a)) 7 rfl rfl rfl (by rw [hg_5]; rfl) ?_
      refine lv (v := (.pointer ((some (⟨o0.g, 0, none⟩ : Addr)).map (·.add 0)))) rfl rfl (r_fieldAddr (sz := 1) (off := 0) Try.underlying85 rfl Try.sizeOf83 (by decide) rfl rfl ⟨_, _, rfl⟩) ?_
      refine lg (b := decide (0 ≤ p1_a)) 7 rfl rfl rfl (by rw [hg_5]; rfl) ?_
      refine lv (v := (.slice o0.a p0_g.length o0.cap)) rfl rfl (r_ld Try.isAgg83 rfl ((h0.box.atN).nth (q := 0) (v := (.slice o0.a p0_g.length o0.cap)) rfl)) ?_
      refine lg (b := decide (0 ≤ p1_a)) 7 rfl rfl rfl (by rw [hg_5]; rfl) ?_
      refine lv (v := (.int .i64 (p0_g.length : Int))) rfl rfl (r_len Try.underlying83 rfl) ?_
      refine lg (b := decide (0 ≤ p1_a)) 7 rfl rfl rfl (by rw [hg_5]; rfl) ?_
      refine lv (v := (.bool (decide (p1_a < (p0_g.length : Int))))) rfl rfl (r_lss p1_a (p0_g.length : Int) rfl rfl) ?_
      refine lv (v := (.bool (decide (p1_a < (p0_g.length : Int))))) rfl rfl (r_pickT (congrArg Value.bool hg_5) rfl) ?_
      refine lv (v := (.bool (decide (p1_a < (p0_g.length : Int))))) rfl rfl (r_assign rfl) ?_
      refine lnil ?_
      exact ⟨(col0 col), (decide (p1_a < (p0_g.length : Int))), hm, hst, rfl, rfl⟩
    · rw [if_neg hg_5] at hm
      replace hg_5 := Bool.eq_false_iff.2 hg_5
      refine lp (b := decide (0 ≤ p1_a)) 7 rfl rfl rfl rfl (by rw [hg_5]; rfl) ?_
      refine lp (b := decide (0 ≤ p1_a)) 7 rfl rfl rfl rfl (by rw [hg_5]; rfl) ?_
      refine lp (b := decide (0 ≤ p1_a)) 7 rfl rfl rfl rfl (by rw [hg_5]; rfl) ?_
      refine lp (b := decide (0 ≤ p1_a)) 7 rfl rfl rfl rfl (by rw [hg_5]; rfl) ?_
      refine lp (b := decide (0 ≤ p1_a)) 7 rfl rfl rfl rfl (by rw [hg_5]; rfl) ?_
      refine lp (b := decide (0 ≤ p1_a)) 7 rfl rfl rfl rfl (by rw [hg_5]; rfl) ?_
      refine lp (b := decide (0 ≤ p1_a)) 7 rfl rfl rfl rfl (by rw [hg_5]; rfl) ?_
      refine lv (v := (.bool false)) rfl rfl (r_pickF (congrArg Value.bool hg_5) rfl) ?_
      refine lv (v := (.bool false)) rfl rfl (r_assign rfl) ?_
      refine lnil ?_
      exact ⟨(col0 col), false, hm, hst, rfl, rfl⟩




def m_graph_Graph_Join_J1 (p0_g : List (List Bool)) (p1_a : Int) (p2_b : Int) (v_19 : Bool) : Option (Bool × List (List Bool)) :=
  if v_19 = true then (some (false, p0_g)) else ((at? p0_g p1_a).bind fun row_20 => (at? p0_g p2_b).bind fun row_25 => chk (0 ≤ p2_b ∧ Int.toNat p2_b < row_20.length) ((some (p0_g.set (Int.toNat p1_a) (rset row_20 p2_b true))).bind fun es_35 => (at? es_35 p2_b).bind fun row_46 => chk (0 ≤ p1_a ∧ Int.toNat p1_a < row_46.length) ((some (es_35.set (Int.toNat p2_b) (rset row_46 p1_a true))).bind fun es_52 => some (true, es_52))))

def m_graph_Graph_Join (p0_g : List (List Bool)) (p1_a : Int) (p2_b : Int) : Option (Bool × List (List Bool)) :=
  (m_graph_Graph_in p0_g p1_a).bind fun r_63 => if (!r_63) = true then (m_graph_Graph_Join_J1 p0_g p1_a p2_b true) else ((m_graph_Graph_in p0_g p2_b).bind fun r_68 => if (!r_68) = true then (m_graph_Graph_Join_J1 p0_g p1_a p2_b true) else (if (decide (p1_a = p2_b)) = true then (m_graph_Graph_Join_J1 p0_g p1_a p2_b true) else ((at? p0_g p1_a).bind fun row_74 => m_graph_Graph_Join_J1 p0_g p1_a p2_b (gat row_74 p2_b))))

set_option maxRecDepth 100000 in
set_option maxHeartbeats 2000000 in
theorem c_graph_Graph_Join (col : Col) (w0 : World) (qc0 : Nat) (hd : dstB [qc0] = true) (o0 : GObj) (p0_g : List (List Bool)) (p1_a : Int) (p2_b : Int) (h0 : GO 85 86 qc0 col w0 o0 p0_g) (r : (Bool × List (List Bool))) (hm : m_graph_Graph_Join p0_g p1_a p2_b = some r) :
    Calls Try.prog 23 #[(.pointer (some ⟨o0.g, 0, none⟩)), (.int .i64 p1_a), (.int .i64 p2_b)] w0 (fun e w' => ∃ (col' : Col), e = .returned ((.bool r.1)) ∧ KeepP (pS [qc0]) col w0 col' w' ∧ GO 85 86 qc0 col' w' o0 r.2) := by
  refine calls_of1 6 (m := 53) (args := [(.pointer (some ⟨o0.g, 0, none⟩)), (.int .i64 p1_a), (.int .i64 p2_b)]) Try.func23 rfl rfl rfl rfl rfl ?_
  rw [m_graph_Graph_Join.eq_1] at hm
  have hst := St.startL (l := [qc0]) rfl col w0
  replace h0 := h0.startL (dst_nz hd 0 rfl) (dst_ix hd 0 rfl)
  refine wseq ?_
  refine wregion ?_
  refine lv (v := (.bool false)) rfl rfl (r_assign rfl) ?_
  refine lnil ?_
  refine wseq ?_
  refine wseq ?_
  refine Wp.cut (fun f w_17 => ∃ (col_18 : Col) (v_19 : Bool), m_graph_Graph_Join_J1 p0_g p1_a p2_b v_19 = some r ∧ St w0 (colL [qc0] col) col_18 w_17 ∧ GO 85 86 440 col_18 w_17 o0 p0_g ∧ f 0 = (.pointer (some ⟨o0.g, 0, none⟩)) ∧ f 1 = (.int .i64 p1_a) ∧ f 2 = (.int .i64 p2_b) ∧ f 32 = (.bool v_19) ∧ f 1000000 = (enc [])) ?_ ?_
  · intro f w_17 hJ
    obtain ⟨col_18, v_19, hm, hst, h0, hs0, hs1, hs2, hs32, hs1000000⟩ := hJ
    rw [m_graph_Graph_Join_J1.eq_1] at hm
    refine .ld (d := 0) (v := (.pointer (some ⟨o0.g, 0, none⟩))) hs0 ?_
    refine .ld (d := 1) (v := (.int .i64 p1_a)) hs1 ?_
    refine .ld (d := 2) (v := (.int .i64 p2_b)) hs2 ?_
    refine .ld (d := 32) (v := (.bool v_19)) hs32 ?_
    refine .ld (d := 1000000) (v := (enc [])) hs1000000 ?_
    clear hs0 hs1 hs2 hs32 hs1000000
    refine wcond (v_19) rfl (fun hb => ?_) (fun hb => ?_)
    · rw [if_pos hb] at hm
      clear hb
      refine wseq ?_
      refine wregion ?_
      refine lv (v := (.bool false)) rfl rfl (r_assign rfl) ?_
      refine lnil ?_
      refine wret ?_
      cases hm
      exact ⟨rfl, colFL w0.heap.size [qc0] col col_18 (fun n => bif Nat.beq n 440 then qc0 else 0), rfl, hst.finL rfl (fun n => bif Nat.beq n 440 then qc0 else 0), hst.finGOL (G := (fun n => bif Nat.beq n 440 then qc0 else 0)) rfl h0 (by decide) (by decide) rfl⟩
    · rw [if_neg (by rw [hb]; decide)] at hm
      clear hb
      refine wskip ?_
      refine wseq ?_
      refine wmix (col := col_18) [(0, 1), (1, 1), (2, 1), (3, 0), (4, 1), (5, 1), (6, 0), (7, 1), (8, 1), (9, 1), (10, 1), (11, 0), (12, 1), (13, 1), (14, 0), (15, 1), (16, 2), (17, 1), (18, 2), (19, 2), (20, 1), (21, 2)] (by kernel_rfl) (by kernel_rfl) ?_
      refine xu (v := (.pointer (some ⟨o0.g, 0, none⟩))) rfl rfl (fun _ => r_move rfl) ?_
      refine xu (v := (.pointer (some ⟨o0.g, 0, none⟩))) rfl rfl (fun _ => r_nilCheck rfl) ?_
      refine xu (v := (.pointer ((some (⟨o0.g, 0, none⟩ : Addr)).map (·.add 0)))) rfl rfl (fun _ => r_fieldAddr (sz := 1) (off := 0) Try.underlying85 rfl Try.sizeOf83 (by decide) rfl rfl ⟨_, _, rfl⟩) ?_
      refine xv (v := (.slice o0.a p0_g.length o0.cap)) rfl rfl (fun _ hC => r_ld Try.isAgg83 rfl (((h0.gr (Grow.of_below (col := col_18) hC.below)).box.atN).nth (q := 0) (v := (.slice o0.a p0_g.length o0.cap)) rfl)) ?_
      refine xu (v := (.int .i64 p1_a)) rfl rfl (fun _ => r_move rfl) ?_
      obtain ⟨row_20, hj_21, hm⟩ := bind_some hm
      obtain ⟨b_22, hb_23, _, hb_24⟩ := h0.blk hj_21
      refine xu (v := (sptr o0.a (Int.toNat p1_a * 1))) rfl rfl (fun _ => r_idx Try.underlying83 Try.sizeOf86 rfl rfl (at?_some hj_21).1 (at?_some hj_21).2.1 (h0.addr hb_23)) ?_
      refine xv (v := (.map (some b_22))) rfl rfl (fun _ hC => r_ld Try.isAgg86 rfl ((h0.gr (Grow.of_below (col := col_18) hC.below)).at1 hb_23)) ?_
      refine xu (v := (.int .i64 p2_b)) rfl rfl (fun _ => r_move rfl) ?_
      refine xu (v := (.pointer (some ⟨o0.g, 0, none⟩))) rfl rfl (fun _ => r_move rfl) ?_
      refine xu (v := (.pointer (some ⟨o0.g, 0, none⟩))) rfl rfl (fun _ => r_nilCheck rfl) ?_
      refine xu (v := (.pointer ((some (⟨o0.g, 0, none⟩ : Addr)).map (·.add 0)))) rfl rfl (fun _ => r_fieldAddr (sz := 1) (off := 0) Try.underlying85 rfl Try.sizeOf83 (by decide) rfl rfl ⟨_, _, rfl⟩) ?_
      refine xv (v := (.slice o0.a p0_g.length o0.cap)) rfl rfl (fun _ hC => r_ld Try.isAgg83 rfl (((h0.gr (Grow.of_below (col := col_18) hC.below)).box.atN).nth (q := 0) (v := (.slice o0.a p0_g.length o0.cap)) rfl)) ?_
      refine xu (v := (.int .i64 p2_b)) rfl rfl (fun _ => r_move rfl) ?_
      obtain ⟨row_25, hj_26, hm⟩ := bind_some hm
      obtain ⟨b_27, hb_28, _, hb_29⟩ := h0.blk hj_26
      refine xu (v := (sptr o0.a (Int.toNat p2_b * 1))) rfl rfl (fun _ => r_idx Try.underlying83 Try.sizeOf86 rfl rfl (at?_some hj_26).1 (at?_some hj_26).2.1 (h0.addr hb_28)) ?_
      refine xv (v := (.map (some b_27))) rfl rfl (fun _ hC => r_ld Try.isAgg86 rfl ((h0.gr (Grow.of_below (col := col_18) hC.below)).at1 hb_28)) ?_
      refine xu (v := (.int .i64 p1_a)) rfl rfl (fun _ => r_move rfl) ?_
      refine xe rfl rfl ?_
      intro w_30 hC0
      have hC : Grow col_18 w_17 col_18 w_30 := .of_below hC0.below
      replace h0 := h0.gr hC
      replace hst := hst.grow hC
      obtain ⟨hb_37, hm⟩ := chk_some hm
      obtain ⟨es_35, hz_36, hm⟩ := bind_some hm
      have hz_36 : es_35 = p0_g.set (Int.toNat p1_a) (rset row_20 p2_b true) := (Option.some.inj hz_36).symm
      refine l_gentry (k := p2_b) h0 (by decide) hb_24 (at?_some hj_21).2.2 hb_37.1 hb_37.2 rfl Try.underlying86 Try.underlying3 Try.zeroValue4 rfl rfl ?_
      intro w_31 v_38 s_39 hk_32 hs_33 h_34
      rw [← hz_36] at h_34
      clear hz_36
      replace hst := hst.kp hk_32 hs_33 (by decide) (by decide)
      clear h0
      refine lnil ⟨fun w' => Grow col_18 w_31 col_18 w', Grow.refl _ _, fun h => absurd h (by decide), ?_⟩
      refine xu (v := (.int .i64 ((s_39 : Nat) : Int))) rfl rfl (fun _ => r_extract rfl rfl) ?_
      refine xe rfl rfl ?_
      intro w_40 hC0
      have hC : Grow col_18 w_31 col_18 w_40 := .of_below hC0.below
      replace h_34 := h_34.gr hC
      replace hst := hst.grow hC
      refine l_gestore h_34 (by decide) hb_24 rfl rfl rfl ?_
      intro w_41 hk_42 hs_43 h_44
      replace hst := hst.kp hk_42 hs_43 (by decide) (by decide)
      clear h_34
      refine lnil ⟨fun w' => Grow col_18 w_41 col_18 w', Grow.refl _ _, fun h => absurd h (by decide), ?_⟩
      refine xe rfl rfl ?_
      intro w_45 hC0
      have hC : Grow col_18 w_41 col_18 w_45 := .of_below hC0.below
      replace h_44 := h_44.gr hC
      replace hst := hst.grow hC
      obtain ⟨row_46, hj_47, hm⟩ := bind_some hm
      obtain ⟨hb_54, hm⟩ := chk_some hm
      obtain ⟨es_52, hz_53, hm⟩ := bind_some hm
      have hz_53 : es_52 = es_35.set (Int.toNat p2_b) (rset row_46 p1_a true) := (Option.some.inj hz_53).symm
      refine l_gentry (k := p1_a) h_44 (by decide) hb_29 (at?_some hj_47).2.2 hb_54.1 hb_54.2 rfl Try.underlying86 Try.underlying3 Try.zeroValue4 rfl rfl ?_
      intro w_48 v_55 s_56 hk_49 hs_50 h_51
      rw [← hz_53] at h_51
      clear hz_53
      replace hst := hst.kp hk_49 hs_50 (by decide) (by decide)
      clear h_44
      refine lnil ⟨fun w' => Grow col_18 w_48 col_18 w', Grow.refl _ _, fun h => absurd h (by decide), ?_⟩
      refine xu (v := (.int .i64 ((s_56 : Nat) : Int))) rfl rfl (fun _ => r_extract rfl rfl) ?_
      refine xe rfl rfl ?_
      intro w_57 hC0
      have hC : Grow col_18 w_48 col_18 w_57 := .of_below hC0.below
      replace h_51 := h_51.gr hC
      replace hst := hst.grow hC
      refine l_gestore h_51 (by decide) hb_29 rfl rfl rfl ?_
      intro w_58 hk_59 hs_60 h_61
      replace hst := hst.kp hk_59 hs_60 (by decide) (by decide)
      clear h_51
      refine lnil ⟨fun w' => Grow col_18 w_58 col_18 w', Grow.refl _ _, fun h => absurd h (by decide), ?_⟩
      refine xnil ?_
      intro w_62 hC
      replace hC : Grow col_18 w_58 col_18 w_62 := .of_below hC.below
      replace h_61 := h_61.gr hC
      replace hst := hst.grow hC
      refine wseq ?_
      refine wregion ?_
      refine lv (v := (.bool true)) rfl rfl (r_assign rfl) ?_
      refine lnil ?_
      refine wret ?_
      cases hm
      exact ⟨rfl, colFL w0.heap.size [qc0] col col_18 (fun n => bif Nat.beq n 440 then qc0 else 0), rfl, hst.finL rfl (fun n => bif Nat.beq n 440 then qc0 else 0), hst.finGOL (G := (fun n => bif Nat.beq n 440 then qc0 else 0)) rfl h_61 (by decide) (by decide) rfl⟩
  · refine wregion ?_
    refine lv (v := (.pointer (some ⟨o0.g, 0, none⟩))) rfl rfl (r_move rfl) ?_
    refine lv (v := (.int .i64 p1_a)) rfl rfl (r_move rfl) ?_
    obtain ⟨r_63, hr_64, hm⟩ := bind_some hm
    refine lc rfl rfl (r_call2 Try.call54 rfl rfl) (c_graph_Graph_in (colL [qc0] col) _ 440 (by decide) o0 p0_g p1_a h0 r_63 hr_64) ?_
    rintro _ w_65 ⟨rfl, hg_66⟩
    refine ⟨_, rfl, ?_⟩
    replace hg_66 : Grow (colL [qc0] col) w0 (colL [qc0] col) w_65 := .of_below hg_66
    replace h0 := h0.gr hg_66
    replace hst := hst.grow hg_66
    refine lv (v := (.bool (!r_63))) rfl rfl (r_not r_63 rfl) ?_
    refine lv (v := (.bool (!r_63))) rfl rfl (r_move rfl) ?_
    by_cases hg_67 : (!r_63) = true
    · rw [if_pos hg_67] at hm
      refine lp (b := !r_63) 11 rfl rfl rfl rfl (by rw [hg_67]; rfl) ?_
      refine lp (b := !r_63) 11 rfl rfl rfl rfl (by rw [hg_67]; rfl) ?_
      refine lp (b := !r_63) 11 rfl rfl rfl rfl (by rw [hg_67]; rfl) ?_
      refine lp (b := !r_63) 11 rfl rfl rfl rfl (by rw [hg_67]; rfl) ?_
      refine lv (v := (.bool true)) rfl rfl (r_pickT (congrArg Value.bool hg_67) rfl) ?_
      refine lv (v := (.bool true)) rfl rfl (r_move rfl) ?_
      refine lp (b := true) 17 rfl rfl rfl rfl rfl ?_
      refine lp (b := true) 17 rfl rfl rfl rfl rfl ?_
      refine lp (b := true) 17 rfl rfl rfl rfl rfl ?_
      refine lv (v := (.bool true)) rfl rfl (r_pickT rfl rfl) ?_
      refine lv (v := (.bool true)) rfl rfl (r_move rfl) ?_
      refine lp (b := true) 22 rfl rfl rfl rfl rfl ?_
      refine lp (b := true) 22 rfl rfl rfl rfl rfl ?_
      refine lp (b := true) 22 rfl rfl rfl rfl rfl ?_
      refine lp (b := true) 22 rfl rfl rfl rfl rfl ?_
      refine lp (b := true) 22 rfl rfl rfl rfl rfl ?_
      refine lp (b := true) 22 rfl rfl rfl rfl rfl ?_
      refine lp (b := true) 22 rfl rfl rfl rfl rfl ?_
      refine lp (b := true) 22 rfl rfl rfl rfl rfl ?_
      refine lp (b := true) 22 rfl rfl rfl rfl rfl ?_
      refine lv (v := (.bool true)) rfl rfl (r_pickT rfl rfl) ?_
      refine lnil ?_
      exact ⟨(colL [qc0] col), true, hm, hst, h0, rfl, rfl, rfl, rfl, rfl⟩
    · rw [if_neg hg_67] at hm
      replace hg_67 := Bool.eq_false_iff.2 hg_67
      refine lg (b := !r_63) 11 rfl rfl rfl (by rw [hg_67]; rfl) ?_
      refine lv (v := (.pointer (some ⟨o0.g, 0, none⟩))) rfl rfl (r_move rfl) ?_
      refine lg (b := !r_63) 11 rfl rfl rfl (by rw [hg_67]; rfl) ?_
      refine lv (v := (.int .i64 p2_b)) rfl rfl (r_move rfl) ?_
      refine lg (b := !r_63) 11 rfl rfl rfl (by rw [hg_67]; rfl) ?_
      obtain ⟨r_68, hr_69, hm⟩ := bind_some hm
      refine lc rfl rfl (r_call2 Try.call54 rfl rfl) (c_graph_Graph_in (colL [qc0] col) _ 440 (by decide) o0 p0_g p2_b h0 r_68 hr_69) ?_
      rintro _ w_70 ⟨rfl, hg_71⟩
      refine ⟨_, rfl, ?_⟩
      replace hg_71 : Grow (colL [qc0] col) w_65 (colL [qc0] col) w_70 := .of_below hg_71
      replace h0 := h0.gr hg_71
      replace hst := hst.grow hg_71
      refine lg (b := !r_63) 11 rfl rfl rfl (by rw [hg_67]; rfl) ?_
      refine lv (v := (.bool (!r_68))) rfl rfl (r_not r_68 rfl) ?_
      refine lv (v := (.bool (!r_68))) rfl rfl (r_pickF (congrArg Value.bool hg_67) rfl) ?_
      refine lv (v := (.bool (!r_68))) rfl rfl (r_move rfl) ?_
      by_cases hg_72 : (!r_68) = true
      · rw [if_pos hg_72] at hm
        refine lp (b := !r_68) 17 rfl rfl rfl rfl (by rw [hg_72]; rfl) ?_
        refine lp (b := !r_68) 17 rfl rfl rfl rfl (by rw [hg_72]; rfl) ?_
        refine lp (b := !r_68) 17 rfl rfl rfl rfl (by rw [hg_72]; rfl) ?_
        refine lv (v := (.bool true)) rfl rfl (r_pickT (congrArg Value.bool hg_72) rfl) ?_
        refine lv (v := (.bool true)) rfl rfl (r_move rfl) ?_
        refine lp (b := true) 22 rfl rfl rfl rfl rfl ?_
        refine lp (b := true) 22 rfl rfl rfl rfl rfl ?_
        refine lp (b := true) 22 rfl rfl rfl rfl rfl ?_
        refine lp (b := true) 22 rfl rfl rfl rfl rfl ?_
        refine lp (b := true) 22 rfl rfl rfl rfl rfl ?_
        refine lp (b := true) 22 rfl rfl rfl rfl rfl ?_
        refine lp (b := true) 22 rfl rfl rfl rfl rfl ?_
        refine lp (b := true) 22 rfl rfl rfl rfl rfl ?_
        refine lp (b := true) 22 rfl rfl rfl rfl rfl ?_
        refine lv (v := (.bool true)) rfl rfl (r_pickT rfl rfl) ?_
        refine lnil ?_
        exact ⟨(colL [qc0] col), true, hm, hst, h0, rfl, rfl, rfl, rfl, rfl⟩
      · rw [if_neg hg_72] at hm
        replace hg_72 := Bool.eq_false_iff.2 hg_72
        refine lg (b := !r_68) 17 rfl rfl rfl (by rw [hg_72]; rfl) ?_
        refine lv (v := (.int .i64 p1_a)) rfl rfl (r_move rfl) ?_
        refine lg (b := !r_68) 17 rfl rfl rfl (by rw [hg_72]; rfl) ?_
        refine lv (v := (.int .i64 p2_b)) rfl rfl (r_move rfl) ?_
        refine lg (b := !r_68) 17 rfl rfl rfl (by rw [hg_72]; rfl) ?_
        refine lv (v := (.bool (decide (p1_a = p2_b)))) rfl rfl (r_eql p1_a p2_b rfl rfl) ?_
        refine lv (v := (.bool (decide (p1_a = p2_b)))) rfl rfl (r_pickF (congrArg Value.bool hg_72) rfl) ?_
        refine lv (v := (.bool (decide (p1_a = p2_b)))) rfl rfl (r_move rfl) ?_
        by_cases hg_73 : (decide (p1_a = p2_b)) = true
        · rw [if_pos hg_73] at hm
          refine lp (b := decide (p1_a = p2_b)) 22 rfl rfl rfl rfl (by rw [hg_73]; rfl) ?_
          refine lp (b := decide (p1_a = p2_b)) 22 rfl rfl rfl rfl (by rw [hg_73]; rfl) ?_
          refine lp (b := decide (p1_a = p2_b)) 22 rfl rfl rfl rfl (by rw [hg_73]; rfl) ?_
          refine lp (b := decide (p1_a = p2_b)) 22 rfl rfl rfl rfl (by rw [hg_73]; rfl) ?_
          refine lp (b := decide (p1_a = p2_b)) 22 rfl rfl rfl rfl (by rw [hg_73]; rfl) ?_
          refine lp (b := decide (p1_a = p2_b)) 22 rfl rfl rfl rfl (by rw [hg_73]; rfl) ?_
          refine lp (b := decide (p1_a = p2_b)) 22 rfl rfl rfl rfl (by rw [hg_73]; rfl) ?_
          refine lp (b := decide (p1_a = p2_b)) 22 rfl rfl rfl rfl (by rw [hg_73]; rfl) ?_
          refine lp (b := decide (p1_a = p2_b)) 22 rfl rfl rfl rfl (by rw [hg_73]; rfl) ?_
          refine lv (v := (.bool true)) rfl rfl (r_pickT (congrArg Value.bool hg_73) rfl) ?_
          refine lnil ?_
          exact ⟨(colL [qc0] col), true, hm, hst, h0, rfl, rfl, rfl, rfl, rfl⟩
        · rw [if_neg hg_73] at hm
          replace hg_73 := Bool.eq_false_iff.2 hg_73
          refine lg (b := decide (p1_a = p2_b)) 22 rfl rfl rfl (by rw [hg_73]; rfl) ?_
          refine lv (v := (.pointer (some ⟨o0.g, 0, none⟩))) rfl rfl (r_move rfl) ?_
          refine lg (b := decide (p1_a = p2_b)) 22 rfl rfl rfl (by rw [hg_73]; rfl) ?_
          refine lv (v := (.pointer (some ⟨o0.g, 0, none⟩))) rfl rfl (r_nilCheck rfl) ?_
          refine lg (b := decide (p1_a = p2_b)) 22 rfl rfl rfl (by rw [hg_73]; rfl) ?_
          refine lv (v := (.pointer ((some (⟨o0.g, 0, none⟩ : Addr)).map (·.add 0)))) rfl rfl (r_fieldAddr (sz := 1) (off := 0) Try.underlying85 rfl Try.sizeOf83 (by decide) rfl rfl ⟨_, _, rfl⟩) ?_
          refine lg (b := decide (p1_a = p2_b)) 22 rfl rfl rfl (by rw [hg_73]; rfl) ?_
          refine lv (v := (.slice o0.a p0_g.length o0.cap)) rfl rfl (r_ld Try.isAgg83 rfl ((h0.box.atN).nth (q := 0) (v := (.slice o0.a p0_g.length o0.cap)) rfl)) ?_
          refine lg (b := decide (p1_a = p2_b)) 22 rfl rfl rfl (by rw [hg_73]; rfl) ?_
          refine lv (v := (.int .i64 p1_a)) rfl rfl (r_move rfl) ?_
          refine lg (b := decide (p1_a = p2_b)) 22 rfl rfl rfl (by rw [hg_73]; rfl) ?_
          obtain ⟨row_74, hj_75, hm⟩ := bind_some hm
          obtain ⟨b_76, hb_77, _, hb_78⟩ := h0.blk hj_75
          refine lv (v := (sptr o0.a (Int.toNat p1_a * 1))) rfl rfl (r_idx Try.underlying83 Try.sizeOf86 rfl rfl (at?_some hj_75).1 (at?_some hj_75).2.1 (h0.addr hb_77)) ?_
          refine lg (b := decide (p1_a = p2_b)) 22 rfl rfl rfl (by rw [hg_73]; rfl) ?_
          refine lv (v := (.map (some b_76))) rfl rfl (r_ld Try.isAgg86 rfl (h0.at1 hb_77)) ?_
          refine lg (b := decide (p1_a = p2_b)) 22 rfl rfl rfl (by rw [hg_73]; rfl) ?_
          refine lv (v := (.int .i64 p2_b)) rfl rfl (r_move rfl) ?_
          refine lg (b := decide (p1_a = p2_b)) 22 rfl rfl rfl (by rw [hg_73]; rfl) ?_
          refine lv (v := (.bool (gat row_74 p2_b))) rfl rfl (r_glookup_g (h0.maps _ _ _ hb_78 (at?_some hj_75).2.2) Try.underlying86 Try.underlying3 Try.zeroValue4 rfl rfl) ?_
          refine lv (v := (.bool (gat row_74 p2_b))) rfl rfl (r_pickF (congrArg Value.bool hg_73) rfl) ?_
          refine lnil ?_
          exact ⟨(colL [qc0] col), (gat row_74 p2_b), hm, hst, h0, rfl, rfl, rfl, rfl, rfl⟩




def m_credenceref15_Graph_point_J1 (v_4 : Bool) : Option Bool :=
  some v_4

def m_credenceref15_Graph_point (p0_g : ((List (List Bool)))) (p1_a : Int) : Option Bool :=
  if (decide (0 ≤ p1_a)) = true then (m_credenceref15_Graph_point_J1 (decide (p1_a < (p0_g.length : Int)))) else (m_credenceref15_Graph_point_J1 false)

set_option maxRecDepth 100000 in
set_option maxHeartbeats 2000000 in
theorem c_credenceref15_Graph_point (col : Col) (w0 : World) (qc0 : Nat) (qc0_1 : Nat) (hqqc0 : qc0 ≠ 0) (hqqc0_1 : qc0_1 ≠ 0) (g0 : Nat) (p0_g : ((List (List Bool)))) (a0_2 : Option Addr) (cap0_2 : Nat) (p1_a : Int) (h0_2 : Own (Rep.row 4 Rep.bool) 26 qc0_1 col w0 a0_2 cap0_2 p0_g) (hb0 : Box 102 qc0 col w0 g0 #[(.slice a0_2 p0_g.length cap0_2)]) (r : Bool) (hm : m_credenceref15_Graph_point p0_g p1_a = some r) :
    Calls Try.prog 94 #[(.pointer (some ⟨g0, 0, none⟩)), (.int .i64 p1_a)] w0 (fun e w' => e = .returned ((.bool r)) ∧ Below w0.heap.size w0 w') := by
  refine calls_of1 4 (m := 16) (args := [(.pointer (some ⟨g0, 0, none⟩)), (.int .i64 p1_a)]) Try.func94 rfl rfl rfl rfl rfl ?_
  rw [m_credenceref15_Graph_point.eq_1] at hm
  have hst := St.start col w0
  replace hb0 := hb0.start0 hqqc0
  replace h0_2 := h0_2.start0 hqqc0_1
  refine wseq ?_
  refine wregion ?_
  refine lv (v := (.bool false)) rfl rfl (r_assign rfl) ?_
  refine lnil ?_
  refine wseq ?_
  refine Wp.cut (fun f w_2 => ∃ (col_3 : Col) (v_4 : Bool), m_credenceref15_Graph_point_J1 v_4 = some r ∧ St w0 (col0 col) col_3 w_2 ∧ Own (Rep.row 4 Rep.bool) 26 999 col_3 w_2 a0_2 cap0_2 p0_g ∧ Box 102 999 col_3 w_2 g0 #[(.slice a0_2 p0_g.length cap0_2)] ∧ f 4 = (.bool v_4) ∧ f 1000000 = (enc [])) ?_ ?_
  · intro f w_2 hJ
    obtain ⟨col_3, v_4, hm, hst, h0_2, hb0, hs4, hs1000000⟩ := hJ
    rw [m_credenceref15_Graph_point_J1.eq_1] at hm
    refine .ld (d := 4) (v := (.bool v_4)) hs4 ?_
    refine .ld (d := 1000000) (v := (enc [])) hs1000000 ?_
    clear hs4 hs1000000
    refine wret ?_
    cases hm
    exact ⟨rfl, rfl, hst.below⟩
  · refine wregion ?_
    refine lv (v := (.int .i64 p1_a)) rfl rfl (r_move rfl) ?_
    refine lv (v := (.bool (decide (0 ≤ p1_a)))) rfl rfl (r_geq p1_a 0 rfl rfl) ?_
    refine lv (v := (.bool (decide (0 ≤ p1_a)))) rfl rfl (r_move rfl) ?_
    by_cases hg_5 : (decide (0 ≤ p1_a)) = true
    · rw [if_pos hg_5] at hm
      refine lg (b := decide (0 ≤ p1_a)) 7 rfl rfl rfl (by rw [hg_5]; rfl) ?_
      refine lv (v := (.int .i64 p1_a)) rfl rfl (r_move rfl) ?_
      refine lg (b := decide (0 ≤ p1_a)) 7 rfl rfl rfl (by rw [hg_5]; rfl) ?_
      refine lv (v := (.pointer (some ⟨g0, 0, none⟩))) rfl rfl (r_move rfl) ?_
      refine lg (b := decide (0 ≤ p1_a)) 7 rfl rfl rfl (by rw [hg_5]; rfl) ?_
      refine lv (v := (.pointer (some ⟨g0, 0, none⟩))) rfl rfl (r_nilCheck rfl) ?_
      refine lg (b := decide (0 ≤ p1_a)) 7 rfl rfl rfl (by rw [hg_5]; rfl) ?_
      refine lv (v := (.pointer ((some (⟨g0, 0, none⟩ : Addr)).map (·.add 0)))) rfl rfl (r_fieldAddr (sz := 1) (off := 0) Try.underlying102 rfl Try.sizeOf100 (by decide) rfl rfl ⟨_, _, rfl⟩) ?_
      refine lg (b := decide (0 ≤ p1_a)) 7 rfl rfl rfl (by rw [hg_5]; rfl) ?_
      refine lv (v := (.slice a0_2 p0_g.length cap0_2)) rfl rfl (r_ld Try.isAgg100 rfl ((hb0.atN).nth (q := 0) (v := (.slice a0_2 p0_g.length cap0_2)) rfl)) ?_
      refine lg (b := decide (0 ≤ p1_a)) 7 rfl rfl rfl (by rw [hg_5]; rfl) ?_
      refine lv (v := (.int .i64 (p0_g.length : Int))) rfl rfl (r_len Try.underlying100 rfl) ?_
      refine lg (b := decide (0 ≤ p1_a)) 7 rfl rfl rfl (by rw [hg_5]; rfl) ?_
      refine lv (v := (.bool (decide (p1_a < (p0_g.length : Int))))) rfl rfl (r_lss p1_a (p0_g.length : Int) rfl rfl) ?_
      refine lv (v := (.bool (decide (p1_a < (p0_g.length : Int))))) rfl rfl (r_pickT (congrArg Value.bool hg_5) rfl) ?_
      refine lv (v := (.bool (decide (p1_a < (p0_g.length : Int))))) rfl rfl (r_assign rfl) ?_
      refine lnil ?_
      exact ⟨(col0 col), (decide (p1_a < (p0_g.length : Int))), hm, hst, h0_2, hb0, rfl, rfl⟩
    · rw [if_neg hg_5] at hm
      replace hg_5 := Bool.eq_false_iff.2 hg_5
      refine lp (b := decide (0 ≤ p1_a)) 7 rfl rfl rfl rfl (by rw [hg_5]; rfl) ?_
      refine lp (b := decide (0 ≤ p1_a)) 7 rfl rfl rfl rfl (by rw [hg_5]; rfl) ?_
      refine lp (b := decide (0 ≤ p1_a)) 7 rfl rfl rfl rfl (by rw [hg_5]; rfl) ?_
      refine lp (b := decide (0 ≤ p1_a)) 7 rfl rfl rfl rfl (by rw [hg_5]; rfl) ?_
      refine lp (b := decide (0 ≤ p1_a)) 7 rfl rfl rfl rfl (by rw [hg_5]; rfl) ?_
      refine lp (b := decide (0 ≤ p1_a)) 7 rfl rfl rfl rfl (by rw [hg_5]; rfl) ?_
      refine lp (b := decide (0 ≤ p1_a)) 7 rfl rfl rfl rfl (by rw [hg_5]; rfl) ?_
      refine lv (v := (.bool false)) rfl rfl (r_pickF (congrArg Value.bool hg_5) rfl) ?_
      refine lv (v := (.bool false)) rfl rfl (r_assign rfl) ?_
      refine lnil ?_
      exact ⟨(col0 col), false, hm, hst, h0_2, hb0, rfl, rfl⟩




def m_credenceref15_Graph_Join_J1 (p0_g : ((List (List Bool)))) (p1_a : Int) (p2_b : Int) (v_23 : Bool) : Option (Bool × ((List (List Bool)))) :=
  if v_23 = true then (some (false, p0_g)) else ((at? p0_g p1_a).bind fun e_24 => (at? e_24 p2_b).bind fun e_33 => (some (e_24.set (Int.toNat p2_b) true)).bind fun xs_40 => (at? (p0_g.set (Int.toNat p1_a) xs_40) p2_b).bind fun e_42 => (at? e_42 p1_a).bind fun e_51 => (some (e_42.set (Int.toNat p1_a) true)).bind fun xs_58 => some (true, (p0_g.set (Int.toNat p1_a) xs_40).set (Int.toNat p2_b) xs_58))

def m_credenceref15_Graph_Join (p0_g : ((List (List Bool)))) (p1_a : Int) (p2_b : Int) : Option (Bool × ((List (List Bool)))) :=
  (m_credenceref15_Graph_point p0_g p1_a).bind fun r_1 => (m_credenceref15_Graph_point p0_g p2_b).bind fun r_5 => if (!r_1) = true then (m_credenceref15_Graph_Join_J1 p0_g p1_a p2_b true) else (if (!r_5) = true then (m_credenceref15_Graph_Join_J1 p0_g p1_a p2_b true) else (if (decide (p1_a = p2_b)) = true then (m_credenceref15_Graph_Join_J1 p0_g p1_a p2_b true) else ((at? p0_g p1_a).bind fun e_63 => (at? e_63 p2_b).bind fun e_70 => m_credenceref15_Graph_Join_J1 p0_g p1_a p2_b e_70)))

set_option maxRecDepth 100000 in
set_option maxHeartbeats 2000000 in
theorem c_credenceref15_Graph_Join (col : Col) (w0 : World) (qc0 : Nat) (qc0_1 : Nat) (hd : dstB [qc0, qc0_1] = true) (g0 : Nat) (p0_g : ((List (List Bool)))) (a0_2 : Option Addr) (cap0_2 : Nat) (p1_a : Int) (p2_b : Int) (h0_2 : Own (Rep.row 4 Rep.bool) 26 qc0_1 col w0 a0_2 cap0_2 p0_g) (hb0 : Box 102 qc0 col w0 g0 #[(.slice a0_2 p0_g.length cap0_2)]) (r : (Bool × ((List (List Bool))))) (hm : m_credenceref15_Graph_Join p0_g p1_a p2_b = some r) :
    Calls Try.prog 65 #[(.pointer (some ⟨g0, 0, none⟩)), (.int .i64 p1_a), (.int .i64 p2_b)] w0 (fun e w' => ∃ (col' : Col) (oa1 : Option Addr) (oc2 : Nat), e = .returned ((.bool r.1)) ∧ KeepP (pS [qc0, qc0_1]) col w0 col' w' ∧ Own (Rep.row 4 Rep.bool) 26 qc0_1 col' w' oa1 oc2 r.2 ∧ Box 102 qc0 col' w' g0 #[(.slice oa1 r.2.length oc2)]) := by
  refine calls_of1 6 (m := 56) (args := [(.pointer (some ⟨g0, 0, none⟩)), (.int .i64 p1_a), (.int .i64 p2_b)]) Try.func65 rfl rfl rfl rfl rfl ?_
  rw [m_credenceref15_Graph_Join.eq_1] at hm
  have hst := St.startL (l := [qc0, qc0_1]) rfl col w0
  replace hb0 := hb0.startL (dst_nz hd 0 rfl) (dst_ix hd 0 rfl)
  replace h0_2 := h0_2.startL (dst_nz hd 1 rfl) (dst_ix hd 1 rfl)
  refine wseq ?_
  refine wregion ?_
  refine lv (v := (.bool false)) rfl rfl (r_assign rfl) ?_
  refine lnil ?_
  refine wseq ?_
  refine wregion ?_
  refine lv (v := (.pointer (some ⟨g0, 0, none⟩))) rfl rfl (r_move rfl) ?_
  refine lv (v := (.int .i64 p1_a)) rfl rfl (r_move rfl) ?_
  obtain ⟨r_1, hr_2, hm⟩ := bind_some hm
  refine lc rfl rfl (r_call2 Try.call94 rfl rfl) (c_credenceref15_Graph_point (colL [qc0, qc0_1] col) _ 440 441 (by decide) (by decide) g0 p0_g a0_2 cap0_2 p1_a h0_2 hb0 r_1 hr_2) ?_
  rintro _ w_3 ⟨rfl, hg_4⟩
  refine ⟨_, rfl, ?_⟩
  replace hg_4 : Grow (colL [qc0, qc0_1] col) w0 (colL [qc0, qc0_1] col) w_3 := .of_below hg_4
  replace h0_2 := h0_2.gr hg_4
  replace hb0 := hb0.gr hg_4
  replace hst := hst.grow hg_4
  refine lv (v := (.bool r_1)) rfl rfl (r_assign rfl) ?_
  refine lnil ?_
  refine wseq ?_
  refine wregion ?_
  refine lv (v := (.pointer (some ⟨g0, 0, none⟩))) rfl rfl (r_move rfl) ?_
  refine lv (v := (.int .i64 p2_b)) rfl rfl (r_move rfl) ?_
  obtain ⟨r_5, hr_6, hm⟩ := bind_some hm
  refine lc rfl rfl (r_call2 Try.call94 rfl rfl) (c_credenceref15_Graph_point (colL [qc0, qc0_1] col) _ 440 441 (by decide) (by decide) g0 p0_g a0_2 cap0_2 p2_b h0_2 hb0 r_5 hr_6) ?_
  rintro _ w_7 ⟨rfl, hg_8⟩
  refine ⟨_, rfl, ?_⟩
  replace hg_8 : Grow (colL [qc0, qc0_1] col) w_3 (colL [qc0, qc0_1] col) w_7 := .of_below hg_8
  replace h0_2 := h0_2.gr hg_8
  replace hb0 := hb0.gr hg_8
  replace hst := hst.grow hg_8
  refine lv (v := (.bool r_5)) rfl rfl (r_assign rfl) ?_
  refine lnil ?_
  refine wseq ?_
  refine wseq ?_
  refine Wp.cut (fun f w_21 => ∃ (col_22 : Col) (v_23 : Bool), m_credenceref15_Graph_Join_J1 p0_g p1_a p2_b v_23 = some r ∧ St w0 (colL [qc0, qc0_1] col) col_22 w_21 ∧ Own (Rep.row 4 Rep.bool) 26 441 col_22 w_21 a0_2 cap0_2 p0_g ∧ Box 102 440 col_22 w_21 g0 #[(.slice a0_2 p0_g.length cap0_2)] ∧ f 0 = (.pointer (some ⟨g0, 0, none⟩)) ∧ f 1 = (.int .i64 p1_a) ∧ f 2 = (.int .i64 p2_b) ∧ f 37 = (.bool v_23) ∧ f 1000000 = (enc [])) ?_ ?_
  · intro f w_21 hJ
    obtain ⟨col_22, v_23, hm, hst, h0_2, hb0, hs0, hs1, hs2, hs37, hs1000000⟩ := hJ
    rw [m_credenceref15_Graph_Join_J1.eq_1] at hm
    refine .ld (d := 0) (v := (.pointer (some ⟨g0, 0, none⟩))) hs0 ?_
    refine .ld (d := 1) (v := (.int .i64 p1_a)) hs1 ?_
    refine .ld (d := 2) (v := (.int .i64 p2_b)) hs2 ?_
    refine .ld (d := 37) (v := (.bool v_23)) hs37 ?_
    refine .ld (d := 1000000) (v := (enc [])) hs1000000 ?_
    clear hs0 hs1 hs2 hs37 hs1000000
    refine wcond (v_23) rfl (fun hb => ?_) (fun hb => ?_)
    · rw [if_pos hb] at hm
      clear hb
      refine wseq ?_
      refine wregion ?_
      refine lv (v := (.bool false)) rfl rfl (r_assign rfl) ?_
      refine lnil ?_
      refine wret ?_
      cases hm
      exact ⟨rfl, colFL w0.heap.size [qc0, qc0_1] col col_22 (fun n => bif Nat.beq n 441 then qc0_1 else bif Nat.beq n 440 then qc0 else 0), a0_2, cap0_2, rfl, hst.finL rfl (fun n => bif Nat.beq n 441 then qc0_1 else bif Nat.beq n 440 then qc0 else 0), hst.finOwnL (g := (fun n => bif Nat.beq n 441 then qc0_1 else bif Nat.beq n 440 then qc0 else 0)) rfl h0_2 (by decide) (by decide) rfl, hst.finBoxL (g := (fun n => bif Nat.beq n 441 then qc0_1 else bif Nat.beq n 440 then qc0 else 0)) hb0 (by decide) (by decide) rfl⟩
    · rw [if_neg (by rw [hb]; decide)] at hm
      clear hb
      refine wskip ?_
      refine wseq ?_
      refine wregion ?_
      refine lv (v := (.pointer (some ⟨g0, 0, none⟩))) rfl rfl (r_move rfl) ?_
      refine lv (v := (.pointer (some ⟨g0, 0, none⟩))) rfl rfl (r_nilCheck rfl) ?_
      refine lv (v := (.pointer ((some (⟨g0, 0, none⟩ : Addr)).map (·.add 0)))) rfl rfl (r_fieldAddr (sz := 1) (off := 0) Try.underlying102 rfl Try.sizeOf100 (by decide) rfl rfl ⟨_, _, rfl⟩) ?_
      refine lv (v := (.slice a0_2 p0_g.length cap0_2)) rfl rfl (r_ld Try.isAgg100 rfl ((hb0.atN).nth (q := 0) (v := (.slice a0_2 p0_g.length cap0_2)) rfl)) ?_
      refine lv (v := (.int .i64 p1_a)) rfl rfl (r_move rfl) ?_
      obtain ⟨e_24, hj_25, hm⟩ := bind_some hm
      refine lv (v := (sptr a0_2 (Int.toNat p1_a * 1))) rfl rfl (r_idx Try.underlying100 Try.sizeOf26 rfl rfl (at?_some hj_25).1 (at?_some hj_25).2.1 (h0_2.addr hj_25)) ?_
      obtain ⟨_, col_29, hk_27, hH_28, hs_26⟩ := h0_2.open_ 1 (by decide) hj_25
      replace hb0 := hb0.kpp hk_27 rfl
      replace hst := hst.kpp hk_27 rfl rfl
      obtain ⟨a_30, cap_31, rfl, h_32⟩ := hs_26.row
      clear h0_2
      replace hH_28 : Hole (Rep.row 4 Rep.bool) 26 441 col_29 w_21 a0_2 cap0_2 p0_g (Int.toNat p1_a) [(.slice a_30 e_24.length cap_31)] := hH_28
      refine lv (v := (.slice a_30 e_24.length cap_31)) rfl rfl (r_ld Try.isAgg26 rfl hH_28.atN.one) ?_
      refine lv (v := (.int .i64 p2_b)) rfl rfl (r_move rfl) ?_
      obtain ⟨e_33, hj_34, hm⟩ := bind_some hm
      refine lv (v := (sptr a_30 (Int.toNat p2_b * 1))) rfl rfl (r_idx Try.underlying26 Try.sizeOf4 rfl rfl (at?_some hj_34).1 (at?_some hj_34).2.1 (h_32.addr hj_34)) ?_
      obtain ⟨xs_40, hz_39, hm⟩ := bind_some hm
      have hz_39 : xs_40 = e_24.set (Int.toNat p2_b) true := (Option.some.inj hz_39).symm
      refine l_store (x1 := true) (v := (.bool true)) h_32 hj_34 rfl Try.sizeOf4 (rd_bool true) rfl rfl (by decide) ?_
      intro w_35 hk_36 hs_37 h_38
      rw [← hz_39] at h_38
      replace hH_28 := hH_28.kp hk_36 (by decide) (by decide)
      replace hb0 := hb0.kp hk_36 (by decide)
      replace hst := hst.kp hk_36 hs_37 (by decide) (by decide)
      replace hb0 : Box 102 440 col_29 w_35 g0 #[(.slice a0_2 p0_g.length cap0_2)] := by rw []; exact hb0
      replace hH_28 : Hole (Rep.row 4 Rep.bool) 26 441 col_29 w_35 a0_2 cap0_2 p0_g (Int.toNat p1_a) [(.slice a_30 xs_40.length cap_31)] := by rw [← (show e_24.length = xs_40.length by rw [hz_39, List.length_set])]; exact hH_28
      clear h_32
      have h_41 := hH_28.close h_38.has (by decide) (by decide)
      replace hb0 := hb0.recol 1 441 (by decide)
      replace hst := hst.recol 1 441 (by decide) (by decide)
      clear hH_28
      replace hb0 : Box 102 440 (rcC 1 441 col_29) w_35 g0 #[(.slice a0_2 ((p0_g.set (Int.toNat p1_a) xs_40).length) cap0_2)] := by rw [← (show p0_g.length = (p0_g.set (Int.toNat p1_a) xs_40).length by simp only [List.length_set])]; exact hb0
      refine lnil ?_
      refine wseq ?_
      refine wregion ?_
      refine lv (v := (.pointer (some ⟨g0, 0, none⟩))) rfl rfl (r_move rfl) ?_
      refine lv (v := (.pointer (some ⟨g0, 0, none⟩))) rfl rfl (r_nilCheck rfl) ?_
      refine lv (v := (.pointer ((some (⟨g0, 0, none⟩ : Addr)).map (·.add 0)))) rfl rfl (r_fieldAddr (sz := 1) (off := 0) Try.underlying102 rfl Try.sizeOf100 (by decide) rfl rfl ⟨_, _, rfl⟩) ?_
      refine lv (v := (.slice a0_2 ((p0_g.set (Int.toNat p1_a) xs_40).length) cap0_2)) rfl rfl (r_ld Try.isAgg100 rfl ((hb0.atN).nth (q := 0) (v := (.slice a0_2 ((p0_g.set (Int.toNat p1_a) xs_40).length) cap0_2)) rfl)) ?_
      refine lv (v := (.int .i64 p2_b)) rfl rfl (r_move rfl) ?_
      obtain ⟨e_42, hj_43, hm⟩ := bind_some hm
      refine lv (v := (sptr a0_2 (Int.toNat p2_b * 1))) rfl rfl (r_idx Try.underlying100 Try.sizeOf26 rfl rfl (at?_some hj_43).1 (at?_some hj_43).2.1 (h_41.addr hj_43)) ?_
      obtain ⟨_, col_47, hk_45, hH_46, hs_44⟩ := h_41.open_ 2 (by decide) hj_43
      replace hb0 := hb0.kpp hk_45 rfl
      replace hst := hst.kpp hk_45 rfl rfl
      obtain ⟨a_48, cap_49, rfl, h_50⟩ := hs_44.row
      clear h_41
      replace hH_46 : Hole (Rep.row 4 Rep.bool) 26 441 col_47 w_35 a0_2 cap0_2 (p0_g.set (Int.toNat p1_a) xs_40) (Int.toNat p2_b) [(.slice a_48 e_42.length cap_49)] := hH_46
      refine lv (v := (.slice a_48 e_42.length cap_49)) rfl rfl (r_ld Try.isAgg26 rfl hH_46.atN.one) ?_
      refine lv (v := (.int .i64 p1_a)) rfl rfl (r_move rfl) ?_
      obtain ⟨e_51, hj_52, hm⟩ := bind_some hm
      refine lv (v := (sptr a_48 (Int.toNat p1_a * 1))) rfl rfl (r_idx Try.underlying26 Try.sizeOf4 rfl rfl (at?_some hj_52).1 (at?_some hj_52).2.1 (h_50.addr hj_52)) ?_
      obtain ⟨xs_58, hz_57, hm⟩ := bind_some hm
      have hz_57 : xs_58 = e_42.set (Int.toNat p1_a) true := (Option.some.inj hz_57).symm
      refine l_store (x1 := true) (v := (.bool true)) h_50 hj_52 rfl Try.sizeOf4 (rd_bool true) rfl rfl (by decide) ?_
      intro w_53 hk_54 hs_55 h_56
      rw [← hz_57] at h_56
      replace hH_46 := hH_46.kp hk_54 (by decide) (by decide)
      replace hb0 := hb0.kp hk_54 (by decide)
      replace hst := hst.kp hk_54 hs_55 (by decide) (by decide)
      replace hb0 : Box 102 440 col_47 w_53 g0 #[(.slice a0_2 ((p0_g.set (Int.toNat p1_a) xs_40).length) cap0_2)] := by rw []; exact hb0
      replace hH_46 : Hole (Rep.row 4 Rep.bool) 26 441 col_47 w_53 a0_2 cap0_2 (p0_g.set (Int.toNat p1_a) xs_40) (Int.toNat p2_b) [(.slice a_48 xs_58.length cap_49)] := by rw [← (show e_42.length = xs_58.length by rw [hz_57, List.length_set])]; exact hH_46
      clear h_50
      have h_59 := hH_46.close h_56.has (by decide) (by decide)
      replace hb0 := hb0.recol 2 441 (by decide)
      replace hst := hst.recol 2 441 (by decide) (by decide)
      clear hH_46
      replace hb0 : Box 102 440 (rcC 2 441 col_47) w_53 g0 #[(.slice a0_2 (((p0_g.set (Int.toNat p1_a) xs_40).set (Int.toNat p2_b) xs_58).length) cap0_2)] := by rw [← (show (p0_g.set (Int.toNat p1_a) xs_40).length = ((p0_g.set (Int.toNat p1_a) xs_40).set (Int.toNat p2_b) xs_58).length by simp only [List.length_set])]; exact hb0
      refine lnil ?_
      refine wseq ?_
      refine wregion ?_
      refine lv (v := (.bool true)) rfl rfl (r_assign rfl) ?_
      refine lnil ?_
      refine wret ?_
      cases hm
      exact ⟨rfl, colFL w0.heap.size [qc0, qc0_1] col (rcC 2 441 col_47) (fun n => bif Nat.beq n 441 then qc0_1 else bif Nat.beq n 440 then qc0 else 0), a0_2, cap0_2, rfl, hst.finL rfl (fun n => bif Nat.beq n 441 then qc0_1 else bif Nat.beq n 440 then qc0 else 0), hst.finOwnL (g := (fun n => bif Nat.beq n 441 then qc0_1 else bif Nat.beq n 440 then qc0 else 0)) rfl h_59 (by decide) (by decide) rfl, hst.finBoxL (g := (fun n => bif Nat.beq n 441 then qc0_1 else bif Nat.beq n 440 then qc0 else 0)) hb0 (by decide) (by decide) rfl⟩
  · refine wregion ?_
    refine lv (v := (.bool r_1)) rfl rfl (r_move rfl) ?_
    refine lv (v := (.bool (!r_1))) rfl rfl (r_not r_1 rfl) ?_
    refine lv (v := (.bool (!r_1))) rfl rfl (r_move rfl) ?_
    by_cases hg_60 : (!r_1) = true
    · rw [if_pos hg_60] at hm
      refine lp (b := !r_1) 17 rfl rfl rfl rfl (by rw [hg_60]; rfl) ?_
      refine lp (b := !r_1) 17 rfl rfl rfl rfl (by rw [hg_60]; rfl) ?_
      refine lv (v := (.bool true)) rfl rfl (r_pickT (congrArg Value.bool hg_60) rfl) ?_
      refine lv (v := (.bool true)) rfl rfl (r_move rfl) ?_
      refine lp (b := true) 21 rfl rfl rfl rfl rfl ?_
      refine lp (b := true) 21 rfl rfl rfl rfl rfl ?_
      refine lp (b := true) 21 rfl rfl rfl rfl rfl ?_
      refine lv (v := (.bool true)) rfl rfl (r_pickT rfl rfl) ?_
      refine lv (v := (.bool true)) rfl rfl (r_move rfl) ?_
      refine lp (b := true) 26 rfl rfl rfl rfl rfl ?_
      refine lp (b := true) 26 rfl rfl rfl rfl rfl ?_
      refine lp (b := true) 26 rfl rfl rfl rfl rfl ?_
      refine lp (b := true) 26 rfl rfl rfl rfl rfl ?_
      refine lp (b := true) 26 rfl rfl rfl rfl rfl ?_
      refine lp (b := true) 26 rfl rfl rfl rfl rfl ?_
      refine lp (b := true) 26 rfl rfl rfl rfl rfl ?_
      refine lp (b := true) 26 rfl rfl rfl rfl rfl ?_
      refine lp (b := true) 26 rfl rfl rfl rfl rfl ?_
      refine lp (b := true) 26 rfl rfl rfl rfl rfl ?_
      refine lv (v := (.bool true)) rfl rfl (r_pickT rfl rfl) ?_
      refine lnil ?_
      exact ⟨(colL [qc0, qc0_1] col), true, hm, hst, h0_2, hb0, rfl, rfl, rfl, rfl, rfl⟩
    · rw [if_neg hg_60] at hm
      replace hg_60 := Bool.eq_false_iff.2 hg_60
      refine lg (b := !r_1) 17 rfl rfl rfl (by rw [hg_60]; rfl) ?_
      refine lv (v := (.bool r_5)) rfl rfl (r_move rfl) ?_
      refine lg (b := !r_1) 17 rfl rfl rfl (by rw [hg_60]; rfl) ?_
      refine lv (v := (.bool (!r_5))) rfl rfl (r_not r_5 rfl) ?_
      refine lv (v := (.bool (!r_5))) rfl rfl (r_pickF (congrArg Value.bool hg_60) rfl) ?_
      refine lv (v := (.bool (!r_5))) rfl rfl (r_move rfl) ?_
      by_cases hg_61 : (!r_5) = true
      · rw [if_pos hg_61] at hm
        refine lp (b := !r_5) 21 rfl rfl rfl rfl (by rw [hg_61]; rfl) ?_
        refine lp (b := !r_5) 21 rfl rfl rfl rfl (by rw [hg_61]; rfl) ?_
        refine lp (b := !r_5) 21 rfl rfl rfl rfl (by rw [hg_61]; rfl) ?_
        refine lv (v := (.bool true)) rfl rfl (r_pickT (congrArg Value.bool hg_61) rfl) ?_
        refine lv (v := (.bool true)) rfl rfl (r_move rfl) ?_
        refine lp (b := true) 26 rfl rfl rfl rfl rfl ?_
        refine lp (b := true) 26 rfl rfl rfl rfl rfl ?_
        refine lp (b := true) 26 rfl rfl rfl rfl rfl ?_
        refine lp (b := true) 26 rfl rfl rfl rfl rfl ?_
        refine lp (b := true) 26 rfl rfl rfl rfl rfl ?_
        refine lp (b := true) 26 rfl rfl rfl rfl rfl ?_
        refine lp (b := true) 26 rfl rfl rfl rfl rfl ?_
        refine lp (b := true) 26 rfl rfl rfl rfl rfl ?_
        refine lp (b := true) 26 rfl rfl rfl rfl rfl ?_
        refine lp (b := true) 26 rfl rfl rfl rfl rfl ?_
        refine lv (v := (.bool true)) rfl rfl (r_pickT rfl rfl) ?_
        refine lnil ?_
        exact ⟨(colL [qc0, qc0_1] col), true, hm, hst, h0_2, hb0, rfl, rfl, rfl, rfl, rfl⟩
      · rw [if_neg hg_61] at hm
        replace hg_61 := Bool.eq_false_iff.2 hg_61
        refine lg (b := !r_5) 21 rfl rfl rfl (by rw [hg_61]; rfl) ?_
        refine lv (v := (.int .i64 p1_a)) rfl rfl (r_move rfl) ?_
        refine lg (b := !r_5) 21 rfl rfl rfl (by rw [hg_61]; rfl) ?_
        refine lv (v := (.int .i64 p2_b)) rfl rfl (r_move rfl) ?_
        refine lg (b := !r_5) 21 rfl rfl rfl (by rw [hg_61]; rfl) ?_
        refine lv (v := (.bool (decide (p1_a = p2_b)))) rfl rfl (r_eql p1_a p2_b rfl rfl) ?_
        refine lv (v := (.bool (decide (p1_a = p2_b)))) rfl rfl (r_pickF (congrArg Value.bool hg_61) rfl) ?_
        refine lv (v := (.bool (decide (p1_a = p2_b)))) rfl rfl (r_move rfl) ?_
        by_cases hg_62 : (decide (p1_a = p2_b)) = true
        · rw [if_pos hg_62] at hm
          refine lp (b := decide (p1_a = p2_b)) 26 rfl rfl rfl rfl (by rw [hg_62]; rfl) ?_
          refine lp (b := decide (p1_a = p2_b)) 26 rfl rfl rfl rfl (by rw [hg_62]; rfl) ?_
          refine lp (b := decide (p1_a = p2_b)) 26 rfl rfl rfl rfl (by rw [hg_62]; rfl) ?_
          refine lp (b := decide (p1_a = p2_b)) 26 rfl rfl rfl rfl (by rw [hg_62]; rfl) ?_
          refine lp (b := decide (p1_a = p2_b)) 26 rfl rfl rfl rfl (by rw [hg_62]; rfl) ?_
          refine lp (b := decide (p1_a = p2_b)) 26 rfl rfl rfl rfl (by rw [hg_62]; rfl) ?_
          refine lp (b := decide (p1_a = p2_b)) 26 rfl rfl rfl rfl (by rw [hg_62]; rfl) ?_
          refine lp (b := decide (p1_a = p2_b)) 26 rfl rfl rfl rfl (by rw [hg_62]; rfl) ?_
          refine lp (b := decide (p1_a = p2_b)) 26 rfl rfl rfl rfl (by rw [hg_62]; rfl) ?_
          refine lp (b := decide (p1_a = p2_b)) 26 rfl rfl rfl rfl (by rw [hg_62]; rfl) ?_
          refine lv (v := (.bool true)) rfl rfl (r_pickT (congrArg Value.bool hg_62) rfl) ?_
          refine lnil ?_
          exact ⟨(colL [qc0, qc0_1] col), true, hm, hst, h0_2, hb0, rfl, rfl, rfl, rfl, rfl⟩
        · rw [if_neg hg_62] at hm
          replace hg_62 := Bool.eq_false_iff.2 hg_62
          refine lg (b := decide (p1_a = p2_b)) 26 rfl rfl rfl (by rw [hg_62]; rfl) ?_
          refine lv (v := (.pointer (some ⟨g0, 0, none⟩))) rfl rfl (r_move rfl) ?_
          refine lg (b := decide (p1_a = p2_b)) 26 rfl rfl rfl (by rw [hg_62]; rfl) ?_
          refine lv (v := (.pointer (some ⟨g0, 0, none⟩))) rfl rfl (r_nilCheck rfl) ?_
          refine lg (b := decide (p1_a = p2_b)) 26 rfl rfl rfl (by rw [hg_62]; rfl) ?_
          refine lv (v := (.pointer ((some (⟨g0, 0, none⟩ : Addr)).map (·.add 0)))) rfl rfl (r_fieldAddr (sz := 1) (off := 0) Try.underlying102 rfl Try.sizeOf100 (by decide) rfl rfl ⟨_, _, rfl⟩) ?_
          refine lg (b := decide (p1_a = p2_b)) 26 rfl rfl rfl (by rw [hg_62]; rfl) ?_
          refine lv (v := (.slice a0_2 p0_g.length cap0_2)) rfl rfl (r_ld Try.isAgg100 rfl ((hb0.atN).nth (q := 0) (v := (.slice a0_2 p0_g.length cap0_2)) rfl)) ?_
          refine lg (b := decide (p1_a = p2_b)) 26 rfl rfl rfl (by rw [hg_62]; rfl) ?_
          refine lv (v := (.int .i64 p1_a)) rfl rfl (r_move rfl) ?_
          refine lg (b := decide (p1_a = p2_b)) 26 rfl rfl rfl (by rw [hg_62]; rfl) ?_
          obtain ⟨e_63, hj_64, hm⟩ := bind_some hm
          refine lv (v := (sptr a0_2 (Int.toNat p1_a * 1))) rfl rfl (r_idx Try.underlying100 Try.sizeOf26 rfl rfl (at?_some hj_64).1 (at?_some hj_64).2.1 (h0_2.addr hj_64)) ?_
          refine lg (b := decide (p1_a = p2_b)) 26 rfl rfl rfl (by rw [hg_62]; rfl) ?_
          obtain ⟨_, hr_65, hA_66⟩ := h0_2.atN hj_64
          obtain ⟨a_67, cap_68, rfl, h_69⟩ := hr_65.row
          refine lv (v := (.slice a_67 e_63.length cap_68)) rfl rfl (r_ld Try.isAgg26 rfl hA_66.one) ?_
          refine lg (b := decide (p1_a = p2_b)) 26 rfl rfl rfl (by rw [hg_62]; rfl) ?_
          refine lv (v := (.int .i64 p2_b)) rfl rfl (r_move rfl) ?_
          refine lg (b := decide (p1_a = p2_b)) 26 rfl rfl rfl (by rw [hg_62]; rfl) ?_
          obtain ⟨e_70, hj_71, hm⟩ := bind_some hm
          refine lv (v := (sptr a_67 (Int.toNat p2_b * 1))) rfl rfl (r_idx Try.underlying26 Try.sizeOf4 rfl rfl (at?_some hj_71).1 (at?_some hj_71).2.1 (h_69.addr hj_71)) ?_
          refine lg (b := decide (p1_a = p2_b)) 26 rfl rfl rfl (by rw [hg_62]; rfl) ?_
          refine lv (v := (.bool e_70)) rfl rfl (r_ld Try.isAgg4 rfl (h_69.atBool hj_71)) ?_
          refine lv (v := (.bool e_70)) rfl rfl (r_pickF (congrArg Value.bool hg_62) rfl) ?_
          refine lnil ?_
          exact ⟨(colL [qc0, qc0_1] col), e_70, hm, hst, h0_2, hb0, rfl, rfl, rfl, rfl, rfl⟩




def m_credencelaw18_drawn_J1  : Option ((Option (List (List Bool))) × (Option ((List (List Bool)))) × Bool) :=
  some (none, none, false)

def m_credencelaw18_drawn_J2  : Option ((Option (List (List Bool))) × (Option ((List (List Bool)))) × Bool) :=
  some (none, none, false)

def m_credencelaw18_drawn_J4 (g_68 : List (List Bool)) (v_74 : Bool) : Option ((Option (List (List Bool))) × (Option ((List (List Bool)))) × Bool) :=
  if v_74 = true then none else (some ((some g_68), none, true))

def m_credencelaw18_drawn_L1 (N : Nat) (p0_d : (Int × (List Int))) (r_6 : Int) : Nat → Int → (List (List Bool)) → Option ((Option (List (List Bool))) × (Option ((List (List Bool)))) × Bool)
  | 0, _, _ => none
  | n_64 + 1, i_67, g_68 => if (decide ((IntKind.i64.wrap (i_67 + 1)) < (p0_d.2.length : Int))) = true then (m_credencelaw18_drawn_J4 g_68 (decide (0 < r_6))) else (m_credencelaw18_drawn_J4 g_68 false)

def m_credencelaw18_drawn_J3 (N : Nat) (p0_d : (Int × (List Int))) (r_6 : Int) (t_17 : List (List Bool)) (v_63 : Bool) : Option ((Option (List (List Bool))) × (Option ((List (List Bool)))) × Bool) :=
  if v_63 = true then (some (none, none, false)) else (m_credencelaw18_drawn_L1 N p0_d r_6 N 0 t_17)

def m_credencelaw18_drawn_J6 (p0_d : (Int × (List Int))) (r_6 : Int) (i_107 : Int) (g_108 : List (List Bool)) (v_110 : List (List Bool)) (kk_L2 : (Int → (List (List Bool)) → (List (List Bool)) → Option ((Option (List (List Bool))) × (Option ((List (List Bool)))) × Bool))) (v_118 : Bool) : Option ((Option (List (List Bool))) × (Option ((List (List Bool)))) × Bool) :=
  if v_118 = true then ((at? p0_d.2 i_107).bind fun e_119 => (at? p0_d.2 (IntKind.i64.wrap (i_107 + 1))).bind fun e_121 => (m_credencelaw18_pick e_119 r_6).bind fun r_124 => (m_credencelaw18_pick e_121 r_6).bind fun r_129 => (m_graph_Graph_Join g_108 r_124 r_129).bind fun r_134 => (m_credencelaw18_pick e_119 r_6).bind fun r_142 => (m_credencelaw18_pick e_121 r_6).bind fun r_147 => (m_credenceref15_Graph_Join v_110 r_142 r_147).bind fun r_152 => kk_L2 (IntKind.i64.wrap (i_107 + 2)) r_134.2 r_152.2) else (some ((some g_108), (some v_110), true))

def m_credencelaw18_drawn_L2 (N : Nat) (p0_d : (Int × (List Int))) (r_6 : Int) : Nat → Int → (List (List Bool)) → (List (List Bool)) → Option ((Option (List (List Bool))) × (Option ((List (List Bool)))) × Bool)
  | 0, _, _, _ => none
  | n_104 + 1, i_107, g_108, v_110 => if (decide ((IntKind.i64.wrap (i_107 + 1)) < (p0_d.2.length : Int))) = true then (m_credencelaw18_drawn_J6 p0_d r_6 i_107 g_108 v_110 (m_credencelaw18_drawn_L2 N p0_d r_6 n_104) (decide (0 < r_6))) else (m_credencelaw18_drawn_J6 p0_d r_6 i_107 g_108 v_110 (m_credencelaw18_drawn_L2 N p0_d r_6 n_104) false)

def m_credencelaw18_drawn_J5 (N : Nat) (p0_d : (Int × (List Int))) (r_6 : Int) (t_17 : List (List Bool)) (t_52 : ((List (List Bool)))) (v_103 : Bool) : Option ((Option (List (List Bool))) × (Option ((List (List Bool)))) × Bool) :=
  if v_103 = true then (some (none, none, false)) else (m_credencelaw18_drawn_L2 N p0_d r_6 N 0 t_17 t_52)

def m_credencelaw18_drawn (N : Nat) (p0_d : (Int × (List Int))) : Option ((Option (List (List Bool))) × (Option ((List (List Bool)))) × Bool) :=
  if (decide (p0_d.1 < 0)) = true then (some (none, none, true)) else ((m_credencelaw18_pick p0_d.1 15).bind fun r_6 => (m_graph_New r_6).bind fun r_10 => optC (r_10.1) ((m_credenceref15_New N r_6).bind fun r_21 => optC (r_21.1) (if (!decide (r_10.2 = 0)) = true then m_credencelaw18_drawn_J1 else m_credencelaw18_drawn_J1) (fun t_28 => if (!decide (r_10.2 = 0)) = true then m_credencelaw18_drawn_J2 else m_credencelaw18_drawn_J2)) (fun t_17 => (m_credenceref15_New N r_6).bind fun r_45 => optC (r_45.1) (if (!decide (r_10.2 = 0)) = true then (m_credencelaw18_drawn_J3 N p0_d r_6 t_17 true) else (m_credencelaw18_drawn_J3 N p0_d r_6 t_17 false)) (fun t_52 => if (!decide (r_10.2 = 0)) = true then (m_credencelaw18_drawn_J5 N p0_d r_6 t_17 t_52 true) else (m_credencelaw18_drawn_J5 N p0_d r_6 t_17 t_52 false))))

set_option maxRecDepth 100000 in
set_option maxHeartbeats 2000000 in
theorem c_credencelaw18_drawn (N : Nat) (c1 : Nat) (c2 : Nat) (c3 : Nat) (col : Col) (w0 : World) (a0_0 : Option Addr) (cap0_0 : Nat) (p0_d : (Int × (List Int))) (h0_0 : Sl (Rep.int .i64) col w0 a0_0 cap0_0 p0_d.2) (r : ((Option (List (List Bool))) × (Option ((List (List Bool)))) × Bool)) (hm : m_credencelaw18_drawn N p0_d = some r) :
    Calls Try.prog 30 #[(.agg #[(.int .i64 p0_d.1), (.slice a0_0 p0_d.2.length cap0_0)])] w0 (fun e w' => ∃ (col' : Col) (rv1 : Value) (rv3 : Value), e = .returned (.tuple #[rv1, rv3, (.bool r.2.2)]) ∧ Grow col w0 col' w' ∧ optP rv1 r.1 (fun (d : List (List Bool)) => ∃ (o9 : GObj), rv1 = .pointer (some ⟨o9.g, 0, none⟩) ∧ GO 85 86 c1 col' w' o9 d) ∧ optP rv3 r.2.1 (fun (d : ((List (List Bool)))) => ∃ (g9 : Nat) (a9 : Option Addr) (cap9 : Nat), rv3 = .pointer (some ⟨g9, 0, none⟩) ∧ Box 102 c2 col' w' g9 #[(.slice a9 d.length cap9)] ∧ Own (Rep.row 4 Rep.bool) 26 c3 col' w' a9 cap9 d)) := by
  refine calls_of3 2 3 4 (m := 81) (args := [(.agg #[(.int .i64 p0_d.1), (.slice a0_0 p0_d.2.length cap0_0)])]) Try.func30 rfl rfl rfl rfl rfl ?_
  rw [m_credencelaw18_drawn.eq_1] at hm
  have hst := St.start col w0
  replace h0_0 := h0_0.keep (Stay.start col w0)
  refine wseq ?_
  refine wregion ?_
  refine l_box (col := (col0 col)) (v := (.agg #[(.int .i64 p0_d.1), (.slice a0_0 p0_d.2.length cap0_0)])) 1 rfl rfl ?_
  intro g_1 w_2 col_3 hg_4 hb_5
  replace h0_0 := h0_0.gr hg_4
  replace hst := hst.grow hg_4
  replace hb_5 : Box 59 1 col_3 w_2 g_1 #[(.int .i64 p0_d.1), (.slice a0_0 p0_d.2.length cap0_0)] := hb_5
  refine lv (v := (.pointer none)) rfl rfl (r_assign rfl) ?_
  refine lv (v := (.pointer none)) rfl rfl (r_assign rfl) ?_
  refine lv (v := (.bool false)) rfl rfl (r_assign rfl) ?_
  refine lnil ?_
  refine wseq ?_
  refine wseq ?_
  refine wregion ?_
  refine lv (v := (.pointer ((some (⟨g_1, 0, none⟩ : Addr)).map (·.add 0)))) rfl rfl (r_fieldAddr (sz := 1) (off := 0) Try.underlying59 rfl Try.sizeOf3 (by decide) rfl rfl ⟨_, _, rfl⟩) ?_
  refine lv (v := (.int .i64 p0_d.1)) rfl rfl (r_ld Try.isAgg3 rfl ((hb_5.atN).nth (q := 0) (v := (.int .i64 p0_d.1)) rfl)) ?_
  refine lv (v := (.bool (decide (p0_d.1 < 0)))) rfl rfl (r_lss p0_d.1 0 rfl rfl) ?_
  refine lnil ?_
  refine wcond (decide (p0_d.1 < 0)) rfl (fun hb => ?_) (fun hb => ?_)
  · rw [if_pos hb] at hm
    clear hb
    refine wseq ?_
    refine wregion ?_
    refine lv (v := (.pointer none)) rfl rfl (r_assign rfl) ?_
    refine lv (v := (.pointer none)) rfl rfl (r_assign rfl) ?_
    refine lv (v := (.bool true)) rfl rfl (r_assign rfl) ?_
    refine lnil ?_
    refine wret ?_
    cases hm
    exact ⟨rfl, colF w0.heap.size col col_3 (fun n => 0), (.pointer none), (.pointer none), rfl, hst.fin (fun n => 0), optP_no, optP_no⟩
  · rw [if_neg (by rw [hb]; decide)] at hm
    clear hb
    refine wskip ?_
    refine wseq ?_
    refine wregion ?_
    refine lv (v := (.pointer ((some (⟨g_1, 0, none⟩ : Addr)).map (·.add 0)))) rfl rfl (r_fieldAddr (sz := 1) (off := 0) Try.underlying59 rfl Try.sizeOf3 (by decide) rfl rfl ⟨_, _, rfl⟩) ?_
    refine lv (v := (.int .i64 p0_d.1)) rfl rfl (r_ld Try.isAgg3 rfl ((hb_5.atN).nth (q := 0) (v := (.int .i64 p0_d.1)) rfl)) ?_
    obtain ⟨r_6, hr_7, hm⟩ := bind_some hm
    refine lc rfl rfl (r_call2 Try.call48 rfl rfl) (c_credencelaw18_pick col_3 _ p0_d.1 15 r_6 hr_7) ?_
    rintro _ w_8 ⟨rfl, hg_9⟩
    refine ⟨_, rfl, ?_⟩
    replace hg_9 : Grow col_3 w_2 col_3 w_8 := .of_below hg_9
    replace h0_0 := h0_0.gr hg_9
    replace hb_5 := hb_5.gr hg_9
    replace hst := hst.grow hg_9
    refine lv (v := (.int .i64 r_6)) rfl rfl (r_assign rfl) ?_
    refine lnil ?_
    refine wseq ?_
    refine wregion ?_
    refine lv (v := (.int .i64 r_6)) rfl rfl (r_move rfl) ?_
    obtain ⟨r_10, hr_11, hm⟩ := bind_some hm
    refine lc rfl rfl (r_call1 Try.call51 rfl) (c_graph_New 2 col_3 _ r_6 r_10 hr_11) ?_
    rintro _ w_14 ⟨col_16, rv_12, rfl, hg_15, rh_13⟩
    refine ⟨_, rfl, ?_⟩
    replace h0_0 := h0_0.gr hg_15
    replace hb_5 := hb_5.gr hg_15
    replace hst := hst.grow hg_15
    cases hx_18 : r_10.1 with
    | none =>
      rw [hx_18] at hm rh_13
      replace hm := optC_none hm
      obtain rfl := optP_none rh_13
      clear rh_13
      refine lv (v := (.tuple #[(.pointer none), (.int .i64 r_10.2)])) rfl rfl (r_move rfl) ?_
      refine lv (v := (.pointer none)) rfl rfl (r_extract rfl rfl) ?_
      refine lv (v := (.int .i64 r_10.2)) rfl rfl (r_extract rfl rfl) ?_
      refine lv (v := (.pointer none)) rfl rfl (r_assign rfl) ?_
      refine lv (v := (.int .i64 r_10.2)) rfl rfl (r_assign rfl) ?_
      refine lnil ?_
      refine wseq ?_
      refine wregion ?_
      refine lv (v := (.int .i64 r_6)) rfl rfl (r_move rfl) ?_
      obtain ⟨r_21, hr_22, hm⟩ := bind_some hm
      refine lc rfl rfl (r_call1 Try.call66 rfl) (c_credenceref15_New N 3 4 col_16 _ r_6 r_21 hr_22) ?_
      rintro _ w_25 ⟨col_27, rv_23, rfl, hg_26, rh_24⟩
      refine ⟨_, rfl, ?_⟩
      replace h0_0 := h0_0.gr hg_26
      replace hb_5 := hb_5.gr hg_26
      replace hst := hst.grow hg_26
      cases hx_29 : r_21.1 with
      | none =>
        rw [hx_29] at hm rh_24
        replace hm := optC_none hm
        obtain rfl := optP_none rh_24
        clear rh_24
        refine lv (v := (.tuple #[(.pointer none), (.int .i64 r_21.2)])) rfl rfl (r_move rfl) ?_
        refine lv (v := (.pointer none)) rfl rfl (r_extract rfl rfl) ?_
        refine lv (v := (.int .i64 r_21.2)) rfl rfl (r_extract rfl rfl) ?_
        refine lv (v := (.pointer none)) rfl rfl (r_assign rfl) ?_
        refine lv (v := (.int .i64 r_21.2)) rfl rfl (r_assign rfl) ?_
        refine lnil ?_
        refine wseq ?_
        refine wseq ?_
        refine Wp.cut (fun f w_37 => ∃ (col_38 : Col), m_credencelaw18_drawn_J1  = some r ∧ St w0 (col0 col) col_38 w_37 ∧ Sl (Rep.int .i64) col_38 w_37 a0_0 cap0_0 p0_d.2 ∧ Box 59 1 col_38 w_37 g_1 #[(.int .i64 p0_d.1), (.slice a0_0 p0_d.2.length cap0_0)] ∧ f 1 = (.pointer (some ⟨g_1, 0, none⟩)) ∧ f 32 = (.bool true) ∧ f 5 = (.int .i64 r_6) ∧ f 6 = (.pointer none) ∧ f 8 = (.pointer none) ∧ f 1000000 = (enc [])) ?_ ?_
        · intro f w_37 hJ
          obtain ⟨col_38, hm, hst, h0_0, hb_5, hs1, hs32, hs5, hs6, hs8, hs1000000⟩ := hJ
          rw [m_credencelaw18_drawn_J1.eq_1] at hm
          refine .ld (d := 1) (v := (.pointer (some ⟨g_1, 0, none⟩))) hs1 ?_
          refine .ld (d := 32) (v := (.bool true)) hs32 ?_
          refine .ld (d := 5) (v := (.int .i64 r_6)) hs5 ?_
          refine .ld (d := 6) (v := (.pointer none)) hs6 ?_
          refine .ld (d := 8) (v := (.pointer none)) hs8 ?_
          refine .ld (d := 1000000) (v := (enc [])) hs1000000 ?_
          clear hs1 hs32 hs5 hs6 hs8 hs1000000
          refine wcondT rfl ?_
          refine wseq ?_
          refine wregion ?_
          refine lv (v := (.pointer none)) rfl rfl (r_assign rfl) ?_
          refine lv (v := (.pointer none)) rfl rfl (r_assign rfl) ?_
          refine lv (v := (.bool false)) rfl rfl (r_assign rfl) ?_
          refine lnil ?_
          refine wret ?_
          cases hm
          exact ⟨rfl, colF w0.heap.size col col_38 (fun n => 0), (.pointer none), (.pointer none), rfl, hst.fin (fun n => 0), optP_no, optP_no⟩
        · refine wregion ?_
          refine lv (v := (.int .i64 r_10.2)) rfl rfl (r_move rfl) ?_
          refine lv (v := (.bool (!decide (r_10.2 = 0)))) rfl rfl (r_neq r_10.2 0 rfl rfl) ?_
          refine lv (v := (.bool (!decide (r_10.2 = 0)))) rfl rfl (r_move rfl) ?_
          by_cases hg_39 : (!decide (r_10.2 = 0)) = true
          · rw [if_pos hg_39] at hm
            refine lp (b := !decide (r_10.2 = 0)) 29 rfl rfl rfl rfl (by rw [hg_39]; rfl) ?_
            refine lp (b := !decide (r_10.2 = 0)) 29 rfl rfl rfl rfl (by rw [hg_39]; rfl) ?_
            refine lv (v := (.bool true)) rfl rfl (r_pickT (congrArg Value.bool hg_39) rfl) ?_
            refine lnil ?_
            exact ⟨col_27, hm, hst, h0_0, hb_5, rfl, rfl, rfl, rfl, rfl, rfl⟩
          · rw [if_neg hg_39] at hm
            replace hg_39 := Bool.eq_false_iff.2 hg_39
            refine lg (b := !decide (r_10.2 = 0)) 29 rfl rfl rfl (by rw [hg_39]; rfl) ?_
            refine lv (v := (.pointer none)) rfl rfl (r_move rfl) ?_
            refine lg (b := !decide (r_10.2 = 0)) 29 rfl rfl rfl (by rw [hg_39]; rfl) ?_
            refine lv (v := (.bool true)) rfl rfl (r_eqlP0 ⟨_, Try.underlying24⟩ rfl rfl) ?_
            refine lv (v := (.bool true)) rfl rfl (r_pickF (congrArg Value.bool hg_39) rfl) ?_
            refine lnil ?_
            exact ⟨col_27, hm, hst, h0_0, hb_5, rfl, rfl, rfl, rfl, rfl, rfl⟩
      | some t_28 =>
        rw [hx_29] at hm rh_24
        replace hm := optC_some hm
        obtain ⟨g_30, a_32, cap_33, rfl, hB_31, hO_34⟩ := optP_some rh_24
        refine lv (v := (.tuple #[(.pointer (some ⟨g_30, 0, none⟩)), (.int .i64 r_21.2)])) rfl rfl (r_move rfl) ?_
        refine lv (v := (.pointer (some ⟨g_30, 0, none⟩))) rfl rfl (r_extract rfl rfl) ?_
        refine lv (v := (.int .i64 r_21.2)) rfl rfl (r_extract rfl rfl) ?_
        refine lv (v := (.pointer (some ⟨g_30, 0, none⟩))) rfl rfl (r_assign rfl) ?_
        refine lv (v := (.int .i64 r_21.2)) rfl rfl (r_assign rfl) ?_
        refine lnil ?_
        refine wseq ?_
        refine wseq ?_
        refine Wp.cut (fun f w_42 => ∃ (col_43 : Col), m_credencelaw18_drawn_J2  = some r ∧ St w0 (col0 col) col_43 w_42 ∧ Sl (Rep.int .i64) col_43 w_42 a0_0 cap0_0 p0_d.2 ∧ Box 59 1 col_43 w_42 g_1 #[(.int .i64 p0_d.1), (.slice a0_0 p0_d.2.length cap0_0)] ∧ Own (Rep.row 4 Rep.bool) 26 4 col_43 w_42 a_32 cap_33 t_28 ∧ Box 102 3 col_43 w_42 g_30 #[(.slice a_32 t_28.length cap_33)] ∧ f 1 = (.pointer (some ⟨g_1, 0, none⟩)) ∧ f 32 = (.bool true) ∧ f 5 = (.int .i64 r_6) ∧ f 6 = (.pointer none) ∧ f 8 = (.pointer (some ⟨g_30, 0, none⟩)) ∧ f 1000000 = (enc [])) ?_ ?_
        · intro f w_42 hJ
          obtain ⟨col_43, hm, hst, h0_0, hb_5, hO_34, hB_31, hs1, hs32, hs5, hs6, hs8, hs1000000⟩ := hJ
          rw [m_credencelaw18_drawn_J2.eq_1] at hm
          refine .ld (d := 1) (v := (.pointer (some ⟨g_1, 0, none⟩))) hs1 ?_
          refine .ld (d := 32) (v := (.bool true)) hs32 ?_
          refine .ld (d := 5) (v := (.int .i64 r_6)) hs5 ?_
          refine .ld (d := 6) (v := (.pointer none)) hs6 ?_
          refine .ld (d := 8) (v := (.pointer (some ⟨g_30, 0, none⟩))) hs8 ?_
          refine .ld (d := 1000000) (v := (enc [])) hs1000000 ?_
          clear hs1 hs32 hs5 hs6 hs8 hs1000000
          refine wcondT rfl ?_
          refine wseq ?_
          refine wregion ?_
          refine lv (v := (.pointer none)) rfl rfl (r_assign rfl) ?_
          refine lv (v := (.pointer none)) rfl rfl (r_assign rfl) ?_
          refine lv (v := (.bool false)) rfl rfl (r_assign rfl) ?_
          refine lnil ?_
          refine wret ?_
          cases hm
          exact ⟨rfl, colF w0.heap.size col col_43 (fun n => 0), (.pointer none), (.pointer none), rfl, hst.fin (fun n => 0), optP_no, optP_no⟩
        · refine wregion ?_
          refine lv (v := (.int .i64 r_10.2)) rfl rfl (r_move rfl) ?_
          refine lv (v := (.bool (!decide (r_10.2 = 0)))) rfl rfl (r_neq r_10.2 0 rfl rfl) ?_
          refine lv (v := (.bool (!decide (r_10.2 = 0)))) rfl rfl (r_move rfl) ?_
          by_cases hg_44 : (!decide (r_10.2 = 0)) = true
          · rw [if_pos hg_44] at hm
            refine lp (b := !decide (r_10.2 = 0)) 29 rfl rfl rfl rfl (by rw [hg_44]; rfl) ?_
            refine lp (b := !decide (r_10.2 = 0)) 29 rfl rfl rfl rfl (by rw [hg_44]; rfl) ?_
            refine lv (v := (.bool true)) rfl rfl (r_pickT (congrArg Value.bool hg_44) rfl) ?_
            refine lnil ?_
            exact ⟨col_27, hm, hst, h0_0, hb_5, hO_34, hB_31, rfl, rfl, rfl, rfl, rfl, rfl⟩
          · rw [if_neg hg_44] at hm
            replace hg_44 := Bool.eq_false_iff.2 hg_44
            refine lg (b := !decide (r_10.2 = 0)) 29 rfl rfl rfl (by rw [hg_44]; rfl) ?_
            refine lv (v := (.pointer none)) rfl rfl (r_move rfl) ?_
            refine lg (b := !decide (r_10.2 = 0)) 29 rfl rfl rfl (by rw [hg_44]; rfl) ?_
            refine lv (v := (.bool true)) rfl rfl (r_eqlP0 ⟨_, Try.underlying24⟩ rfl rfl) ?_
            refine lv (v := (.bool true)) rfl rfl (r_pickF (congrArg Value.bool hg_44) rfl) ?_
            refine lnil ?_
            exact ⟨col_27, hm, hst, h0_0, hb_5, hO_34, hB_31, rfl, rfl, rfl, rfl, rfl, rfl⟩
    | some t_17 =>
      rw [hx_18] at hm rh_13
      replace hm := optC_some hm
      obtain ⟨o_19, rfl, hG_20⟩ := optP_some rh_13
      refine lv (v := (.tuple #[(.pointer (some ⟨o_19.g, 0, none⟩)), (.int .i64 r_10.2)])) rfl rfl (r_move rfl) ?_
      refine lv (v := (.pointer (some ⟨o_19.g, 0, none⟩))) rfl rfl (r_extract rfl rfl) ?_
      refine lv (v := (.int .i64 r_10.2)) rfl rfl (r_extract rfl rfl) ?_
      refine lv (v := (.pointer (some ⟨o_19.g, 0, none⟩))) rfl rfl (r_assign rfl) ?_
      refine lv (v := (.int .i64 r_10.2)) rfl rfl (r_assign rfl) ?_
      refine lnil ?_
      refine wseq ?_
      refine wregion ?_
      refine lv (v := (.int .i64 r_6)) rfl rfl (r_move rfl) ?_
      obtain ⟨r_45, hr_46, hm⟩ := bind_some hm
      refine lc rfl rfl (r_call1 Try.call66 rfl) (c_credenceref15_New N 5 6 col_16 _ r_6 r_45 hr_46) ?_
      rintro _ w_49 ⟨col_51, rv_47, rfl, hg_50, rh_48⟩
      refine ⟨_, rfl, ?_⟩
      replace h0_0 := h0_0.gr hg_50
      replace hG_20 := hG_20.gr hg_50
      replace hb_5 := hb_5.gr hg_50
      replace hst := hst.grow hg_50
      cases hx_53 : r_45.1 with
      | none =>
        rw [hx_53] at hm rh_48
        replace hm := optC_none hm
        obtain rfl := optP_none rh_48
        clear rh_48
        refine lv (v := (.tuple #[(.pointer none), (.int .i64 r_45.2)])) rfl rfl (r_move rfl) ?_
        refine lv (v := (.pointer none)) rfl rfl (r_extract rfl rfl) ?_
        refine lv (v := (.int .i64 r_45.2)) rfl rfl (r_extract rfl rfl) ?_
        refine lv (v := (.pointer none)) rfl rfl (r_assign rfl) ?_
        refine lv (v := (.int .i64 r_45.2)) rfl rfl (r_assign rfl) ?_
        refine lnil ?_
        refine wseq ?_
        refine wseq ?_
        refine Wp.cut (fun f w_61 => ∃ (col_62 : Col) (v_63 : Bool), m_credencelaw18_drawn_J3 N p0_d r_6 t_17 v_63 = some r ∧ St w0 (col0 col) col_62 w_61 ∧ Sl (Rep.int .i64) col_62 w_61 a0_0 cap0_0 p0_d.2 ∧ Box 59 1 col_62 w_61 g_1 #[(.int .i64 p0_d.1), (.slice a0_0 p0_d.2.length cap0_0)] ∧ GO 85 86 2 col_62 w_61 o_19 t_17 ∧ f 1 = (.pointer (some ⟨g_1, 0, none⟩)) ∧ f 32 = (.bool v_63) ∧ f 5 = (.int .i64 r_6) ∧ f 6 = (.pointer (some ⟨o_19.g, 0, none⟩)) ∧ f 8 = (.pointer none) ∧ f 1000000 = (enc [])) ?_ ?_
        · intro f w_61 hJ
          obtain ⟨col_62, v_63, hm, hst, h0_0, hb_5, hG_20, hs1, hs32, hs5, hs6, hs8, hs1000000⟩ := hJ
          rw [m_credencelaw18_drawn_J3.eq_1] at hm
          refine .ld (d := 1) (v := (.pointer (some ⟨g_1, 0, none⟩))) hs1 ?_
          refine .ld (d := 32) (v := (.bool v_63)) hs32 ?_
          refine .ld (d := 5) (v := (.int .i64 r_6)) hs5 ?_
          refine .ld (d := 6) (v := (.pointer (some ⟨o_19.g, 0, none⟩))) hs6 ?_
          refine .ld (d := 8) (v := (.pointer none)) hs8 ?_
          refine .ld (d := 1000000) (v := (enc [])) hs1000000 ?_
          clear hs1 hs32 hs5 hs6 hs8 hs1000000
          refine wcond (v_63) rfl (fun hb => ?_) (fun hb => ?_)
          · rw [if_pos hb] at hm
            clear hb
            refine wseq ?_
            refine wregion ?_
            refine lv (v := (.pointer none)) rfl rfl (r_assign rfl) ?_
            refine lv (v := (.pointer none)) rfl rfl (r_assign rfl) ?_
            refine lv (v := (.bool false)) rfl rfl (r_assign rfl) ?_
            refine lnil ?_
            refine wret ?_
            cases hm
            exact ⟨rfl, colF w0.heap.size col col_62 (fun n => 0), (.pointer none), (.pointer none), rfl, hst.fin (fun n => 0), optP_no, optP_no⟩
          · rw [if_neg (by rw [hb]; decide)] at hm
            clear hb
            refine wskip ?_
            refine wseq ?_
            refine wseq ?_
            refine wregion ?_
            refine lv (v := (.int .i64 0)) rfl rfl (r_assign rfl) ?_
            refine lnil ?_
            refine wblock ?_
            refine wloop (fun n f w_65 => ∃ (col_66 : Col) (i_67 : Int) (g_68 : List (List Bool)) (n_64 : Nat), n_64 = n ∧ m_credencelaw18_drawn_L1 N p0_d r_6 n_64 i_67 g_68 = some r ∧ St w0 (col0 col) col_66 w_65 ∧ Sl (Rep.int .i64) col_66 w_65 a0_0 cap0_0 p0_d.2 ∧ Box 59 1 col_66 w_65 g_1 #[(.int .i64 p0_d.1), (.slice a0_0 p0_d.2.length cap0_0)] ∧ GO 85 86 2 col_66 w_65 o_19 g_68 ∧ f 1 = (.pointer (some ⟨g_1, 0, none⟩)) ∧ f 10 = (.int .i64 i_67) ∧ f 5 = (.int .i64 r_6) ∧ f 6 = (.pointer (some ⟨o_19.g, 0, none⟩)) ∧ f 8 = (.pointer none) ∧ f 1000000 = (enc [])) N ⟨col_62, 0, t_17, N, rfl, hm, hst, h0_0, hb_5, hG_20, rfl, rfl, rfl, rfl, rfl, rfl⟩ ?_
            clear hm; intro n f w_65 hI
            obtain ⟨col_66, i_67, g_68, n_64, hn, hm, hst, h0_0, hb_5, h_69, hs1, hs10, hs5, hs6, hs8, hs1000000⟩ := hI
            subst hn
            refine .ld (d := 1) (v := (.pointer (some ⟨g_1, 0, none⟩))) hs1 ?_
            refine .ld (d := 10) (v := (.int .i64 i_67)) hs10 ?_
            refine .ld (d := 5) (v := (.int .i64 r_6)) hs5 ?_
            refine .ld (d := 6) (v := (.pointer (some ⟨o_19.g, 0, none⟩))) hs6 ?_
            refine .ld (d := 8) (v := (.pointer none)) hs8 ?_
            refine .ld (d := 1000000) (v := (enc [])) hs1000000 ?_
            clear hs1 hs10 hs5 hs6 hs8 hs1000000
            cases n_64 with
            | zero => rw [m_credencelaw18_drawn_L1.eq_1] at hm; cases hm
            | succ n_64 =>
              rw [m_credencelaw18_drawn_L1.eq_2] at hm
              refine wseq ?_
              refine wseq ?_
              refine Wp.cut (fun f w_72 => ∃ (col_73 : Col) (v_74 : Bool), m_credencelaw18_drawn_J4 g_68 v_74 = some r ∧ St w0 (col0 col) col_73 w_72 ∧ Sl (Rep.int .i64) col_73 w_72 a0_0 cap0_0 p0_d.2 ∧ Box 59 1 col_73 w_72 g_1 #[(.int .i64 p0_d.1), (.slice a0_0 p0_d.2.length cap0_0)] ∧ GO 85 86 2 col_73 w_72 o_19 g_68 ∧ f 1 = (.pointer (some ⟨g_1, 0, none⟩)) ∧ f 10 = (.int .i64 i_67) ∧ f 42 = (.bool v_74) ∧ f 5 = (.int .i64 r_6) ∧ f 6 = (.pointer (some ⟨o_19.g, 0, none⟩)) ∧ f 8 = (.pointer none) ∧ f 1000000 = (enc [])) ?_ ?_
              · intro f w_72 hJ
                obtain ⟨col_73, v_74, hm, hst, h0_0, hb_5, h_69, hs1, hs10, hs42, hs5, hs6, hs8, hs1000000⟩ := hJ
                rw [m_credencelaw18_drawn_J4.eq_1] at hm
                refine .ld (d := 1) (v := (.pointer (some ⟨g_1, 0, none⟩))) hs1 ?_
                refine .ld (d := 10) (v := (.int .i64 i_67)) hs10 ?_
                refine .ld (d := 42) (v := (.bool v_74)) hs42 ?_
                refine .ld (d := 5) (v := (.int .i64 r_6)) hs5 ?_
                refine .ld (d := 6) (v := (.pointer (some ⟨o_19.g, 0, none⟩))) hs6 ?_
                refine .ld (d := 8) (v := (.pointer none)) hs8 ?_
                refine .ld (d := 1000000) (v := (enc [])) hs1000000 ?_
                clear hs1 hs10 hs42 hs5 hs6 hs8 hs1000000
                refine wcond (v_74) rfl (fun hb => ?_) (fun hb => ?_)
                · rw [if_pos hb] at hm
                  clear hb
                  cases hm
                · rw [if_neg (by rw [hb]; decide)] at hm
                  clear hb
                  refine wexit (inB_hit ?_)
                  refine wseq ?_
                  refine wregion ?_
                  refine lv (v := (.pointer (some ⟨o_19.g, 0, none⟩))) rfl rfl (r_move rfl) ?_
                  refine lv (v := (.pointer none)) rfl rfl (r_move rfl) ?_
                  refine lv (v := (.pointer (some ⟨o_19.g, 0, none⟩))) rfl rfl (r_assign rfl) ?_
                  refine lv (v := (.pointer none)) rfl rfl (r_assign rfl) ?_
                  refine lv (v := (.bool true)) rfl rfl (r_assign rfl) ?_
                  refine lnil ?_
                  refine wret ?_
                  cases hm
                  exact ⟨rfl, colF w0.heap.size col col_73 (fun n => bif Nat.beq n 2 then c1 else 0), (.pointer (some ⟨o_19.g, 0, none⟩)), (.pointer none), rfl, hst.fin (fun n => bif Nat.beq n 2 then c1 else 0), optP_of ⟨_, rfl, hst.finGO (G := (fun n => bif Nat.beq n 2 then c1 else 0)) rfl h_69 (by decide) (by decide) rfl⟩, optP_no⟩
              · refine wregion ?_
                refine lv (v := (.int .i64 i_67)) rfl rfl (r_move rfl) ?_
                refine lv (v := (.int .i64 (IntKind.i64.wrap (i_67 + 1)))) rfl rfl (r_add i_67 1 rfl rfl) ?_
                refine lv (v := (.pointer ((some (⟨g_1, 0, none⟩ : Addr)).map (·.add 1)))) rfl rfl (r_fieldAddr (sz := 1) (off := 1) Try.underlying59 rfl Try.sizeOf22 (by decide) rfl rfl ⟨_, _, rfl⟩) ?_
                refine lv (v := (.slice a0_0 p0_d.2.length cap0_0)) rfl rfl (r_ld Try.isAgg22 rfl ((hb_5.atN).nth (q := 1) (v := (.slice a0_0 p0_d.2.length cap0_0)) rfl)) ?_
                refine lv (v := (.int .i64 (p0_d.2.length : Int))) rfl rfl (r_len Try.underlying22 rfl) ?_
                refine lv (v := (.bool (decide ((IntKind.i64.wrap (i_67 + 1)) < (p0_d.2.length : Int))))) rfl rfl (r_lss (IntKind.i64.wrap (i_67 + 1)) (p0_d.2.length : Int) rfl rfl) ?_
                refine lv (v := (.bool (decide ((IntKind.i64.wrap (i_67 + 1)) < (p0_d.2.length : Int))))) rfl rfl (r_move rfl) ?_
                by_cases hg_97 : (decide ((IntKind.i64.wrap (i_67 + 1)) < (p0_d.2.length : Int))) = true
                · rw [if_pos hg_97] at hm
                  refine lg (b := decide ((IntKind.i64.wrap (i_67 + 1)) < (p0_d.2.length : Int))) 39 rfl rfl rfl (by rw [hg_97]; rfl) ?_
                  refine lv (v := (.int .i64 r_6)) rfl rfl (r_move rfl) ?_
                  refine lg (b := decide ((IntKind.i64.wrap (i_67 + 1)) < (p0_d.2.length : Int))) 39 rfl rfl rfl (by rw [hg_97]; rfl) ?_
                  refine lv (v := (.bool (decide (0 < r_6)))) rfl rfl (r_gtr r_6 0 rfl rfl) ?_
                  refine lv (v := (.bool (decide (0 < r_6)))) rfl rfl (r_pickT (congrArg Value.bool hg_97) rfl) ?_
                  refine lnil ?_
                  exact ⟨col_66, (decide (0 < r_6)), hm, hst, h0_0, hb_5, h_69, rfl, rfl, rfl, rfl, rfl, rfl, rfl⟩
                · rw [if_neg hg_97] at hm
                  replace hg_97 := Bool.eq_false_iff.2 hg_97
                  refine lp (b := decide ((IntKind.i64.wrap (i_67 + 1)) < (p0_d.2.length : Int))) 39 rfl rfl rfl rfl (by rw [hg_97]; rfl) ?_
                  refine lp (b := decide ((IntKind.i64.wrap (i_67 + 1)) < (p0_d.2.length : Int))) 39 rfl rfl rfl rfl (by rw [hg_97]; rfl) ?_
                  refine lv (v := (.bool false)) rfl rfl (r_pickF (congrArg Value.bool hg_97) rfl) ?_
                  refine lnil ?_
                  exact ⟨col_66, false, hm, hst, h0_0, hb_5, h_69, rfl, rfl, rfl, rfl, rfl, rfl, rfl⟩
        · refine wregion ?_
          refine lv (v := (.int .i64 r_10.2)) rfl rfl (r_move rfl) ?_
          refine lv (v := (.bool (!decide (r_10.2 = 0)))) rfl rfl (r_neq r_10.2 0 rfl rfl) ?_
          refine lv (v := (.bool (!decide (r_10.2 = 0)))) rfl rfl (r_move rfl) ?_
          by_cases hg_98 : (!decide (r_10.2 = 0)) = true
          · rw [if_pos hg_98] at hm
            refine lp (b := !decide (r_10.2 = 0)) 29 rfl rfl rfl rfl (by rw [hg_98]; rfl) ?_
            refine lp (b := !decide (r_10.2 = 0)) 29 rfl rfl rfl rfl (by rw [hg_98]; rfl) ?_
            refine lv (v := (.bool true)) rfl rfl (r_pickT (congrArg Value.bool hg_98) rfl) ?_
            refine lnil ?_
            exact ⟨col_51, true, hm, hst, h0_0, hb_5, hG_20, rfl, rfl, rfl, rfl, rfl, rfl⟩
          · rw [if_neg hg_98] at hm
            replace hg_98 := Bool.eq_false_iff.2 hg_98
            refine lg (b := !decide (r_10.2 = 0)) 29 rfl rfl rfl (by rw [hg_98]; rfl) ?_
            refine lv (v := (.pointer (some ⟨o_19.g, 0, none⟩))) rfl rfl (r_move rfl) ?_
            refine lg (b := !decide (r_10.2 = 0)) 29 rfl rfl rfl (by rw [hg_98]; rfl) ?_
            refine lv (v := (.bool false)) rfl rfl (r_eqlP1 ⟨_, Try.underlying24⟩ rfl rfl) ?_
            refine lv (v := (.bool false)) rfl rfl (r_pickF (congrArg Value.bool hg_98) rfl) ?_
            refine lnil ?_
            exact ⟨col_51, false, hm, hst, h0_0, hb_5, hG_20, rfl, rfl, rfl, rfl, rfl, rfl⟩
      | some t_52 =>
        rw [hx_53] at hm rh_48
        replace hm := optC_some hm
        obtain ⟨g_54, a_56, cap_57, rfl, hB_55, hO_58⟩ := optP_some rh_48
        refine lv (v := (.tuple #[(.pointer (some ⟨g_54, 0, none⟩)), (.int .i64 r_45.2)])) rfl rfl (r_move rfl) ?_
        refine lv (v := (.pointer (some ⟨g_54, 0, none⟩))) rfl rfl (r_extract rfl rfl) ?_
        refine lv (v := (.int .i64 r_45.2)) rfl rfl (r_extract rfl rfl) ?_
        refine lv (v := (.pointer (some ⟨g_54, 0, none⟩))) rfl rfl (r_assign rfl) ?_
        refine lv (v := (.int .i64 r_45.2)) rfl rfl (r_assign rfl) ?_
        refine lnil ?_
        refine wseq ?_
        refine wseq ?_
        refine Wp.cut (fun f w_101 => ∃ (col_102 : Col) (v_103 : Bool), m_credencelaw18_drawn_J5 N p0_d r_6 t_17 t_52 v_103 = some r ∧ St w0 (col0 col) col_102 w_101 ∧ Sl (Rep.int .i64) col_102 w_101 a0_0 cap0_0 p0_d.2 ∧ Box 59 1 col_102 w_101 g_1 #[(.int .i64 p0_d.1), (.slice a0_0 p0_d.2.length cap0_0)] ∧ GO 85 86 2 col_102 w_101 o_19 t_17 ∧ Own (Rep.row 4 Rep.bool) 26 6 col_102 w_101 a_56 cap_57 t_52 ∧ Box 102 5 col_102 w_101 g_54 #[(.slice a_56 t_52.length cap_57)] ∧ f 1 = (.pointer (some ⟨g_1, 0, none⟩)) ∧ f 32 = (.bool v_103) ∧ f 5 = (.int .i64 r_6) ∧ f 6 = (.pointer (some ⟨o_19.g, 0, none⟩)) ∧ f 8 = (.pointer (some ⟨g_54, 0, none⟩)) ∧ f 1000000 = (enc [])) ?_ ?_
        · intro f w_101 hJ
          obtain ⟨col_102, v_103, hm, hst, h0_0, hb_5, hG_20, hO_58, hB_55, hs1, hs32, hs5, hs6, hs8, hs1000000⟩ := hJ
          rw [m_credencelaw18_drawn_J5.eq_1] at hm
          refine .ld (d := 1) (v := (.pointer (some ⟨g_1, 0, none⟩))) hs1 ?_
          refine .ld (d := 32) (v := (.bool v_103)) hs32 ?_
          refine .ld (d := 5) (v := (.int .i64 r_6)) hs5 ?_
          refine .ld (d := 6) (v := (.pointer (some ⟨o_19.g, 0, none⟩))) hs6 ?_
          refine .ld (d := 8) (v := (.pointer (some ⟨g_54, 0, none⟩))) hs8 ?_
          refine .ld (d := 1000000) (v := (enc [])) hs1000000 ?_
          clear hs1 hs32 hs5 hs6 hs8 hs1000000
          refine wcond (v_103) rfl (fun hb => ?_) (fun hb => ?_)
          · rw [if_pos hb] at hm
            clear hb
            refine wseq ?_
            refine wregion ?_
            refine lv (v := (.pointer none)) rfl rfl (r_assign rfl) ?_
            refine lv (v := (.pointer none)) rfl rfl (r_assign rfl) ?_
            refine lv (v := (.bool false)) rfl rfl (r_assign rfl) ?_
            refine lnil ?_
            refine wret ?_
            cases hm
            exact ⟨rfl, colF w0.heap.size col col_102 (fun n => 0), (.pointer none), (.pointer none), rfl, hst.fin (fun n => 0), optP_no, optP_no⟩
          · rw [if_neg (by rw [hb]; decide)] at hm
            clear hb
            refine wskip ?_
            refine wseq ?_
            refine wseq ?_
            refine wregion ?_
            refine lv (v := (.int .i64 0)) rfl rfl (r_assign rfl) ?_
            refine lnil ?_
            refine wblock ?_
            refine wloop (fun n f w_105 => ∃ (col_106 : Col) (i_107 : Int) (g_108 : List (List Bool)) (a_111 : Option Addr) (cap_112 : Nat) (v_110 : List (List Bool)) (n_104 : Nat), n_104 = n ∧ m_credencelaw18_drawn_L2 N p0_d r_6 n_104 i_107 g_108 v_110 = some r ∧ St w0 (col0 col) col_106 w_105 ∧ Sl (Rep.int .i64) col_106 w_105 a0_0 cap0_0 p0_d.2 ∧ Box 59 1 col_106 w_105 g_1 #[(.int .i64 p0_d.1), (.slice a0_0 p0_d.2.length cap0_0)] ∧ GO 85 86 2 col_106 w_105 o_19 g_108 ∧ Own (Rep.row 4 Rep.bool) 26 6 col_106 w_105 a_111 cap_112 v_110 ∧ Box 102 5 col_106 w_105 g_54 #[(.slice a_111 v_110.length cap_112)] ∧ f 1 = (.pointer (some ⟨g_1, 0, none⟩)) ∧ f 10 = (.int .i64 i_107) ∧ f 5 = (.int .i64 r_6) ∧ f 6 = (.pointer (some ⟨o_19.g, 0, none⟩)) ∧ f 8 = (.pointer (some ⟨g_54, 0, none⟩)) ∧ f 1000000 = (enc [])) N ⟨col_102, 0, t_17, a_56, cap_57, t_52, N, rfl, hm, hst, h0_0, hb_5, hG_20, hO_58, hB_55, rfl, rfl, rfl, rfl, rfl, rfl⟩ ?_
            clear hm; intro n f w_105 hI
            obtain ⟨col_106, i_107, g_108, a_111, cap_112, v_110, n_104, hn, hm, hst, h0_0, hb_5, h_109, h_113, hB_55, hs1, hs10, hs5, hs6, hs8, hs1000000⟩ := hI
            subst hn
            refine .ld (d := 1) (v := (.pointer (some ⟨g_1, 0, none⟩))) hs1 ?_
            refine .ld (d := 10) (v := (.int .i64 i_107)) hs10 ?_
            refine .ld (d := 5) (v := (.int .i64 r_6)) hs5 ?_
            refine .ld (d := 6) (v := (.pointer (some ⟨o_19.g, 0, none⟩))) hs6 ?_
            refine .ld (d := 8) (v := (.pointer (some ⟨g_54, 0, none⟩))) hs8 ?_
            refine .ld (d := 1000000) (v := (enc [])) hs1000000 ?_
            clear hs1 hs10 hs5 hs6 hs8 hs1000000
            cases n_104 with
            | zero => rw [m_credencelaw18_drawn_L2.eq_1] at hm; cases hm
            | succ n_104 =>
              rw [m_credencelaw18_drawn_L2.eq_2] at hm
              refine wseq ?_
              refine wseq ?_
              refine Wp.cut (fun f w_116 => ∃ (col_117 : Col) (v_118 : Bool), m_credencelaw18_drawn_J6 p0_d r_6 i_107 g_108 v_110 (m_credencelaw18_drawn_L2 N p0_d r_6 n_104) v_118 = some r ∧ St w0 (col0 col) col_117 w_116 ∧ Sl (Rep.int .i64) col_117 w_116 a0_0 cap0_0 p0_d.2 ∧ Box 59 1 col_117 w_116 g_1 #[(.int .i64 p0_d.1), (.slice a0_0 p0_d.2.length cap0_0)] ∧ GO 85 86 2 col_117 w_116 o_19 g_108 ∧ Own (Rep.row 4 Rep.bool) 26 6 col_117 w_116 a_111 cap_112 v_110 ∧ Box 102 5 col_117 w_116 g_54 #[(.slice a_111 v_110.length cap_112)] ∧ f 1 = (.pointer (some ⟨g_1, 0, none⟩)) ∧ f 10 = (.int .i64 i_107) ∧ f 42 = (.bool v_118) ∧ f 5 = (.int .i64 r_6) ∧ f 6 = (.pointer (some ⟨o_19.g, 0, none⟩)) ∧ f 8 = (.pointer (some ⟨g_54, 0, none⟩)) ∧ f 1000000 = (enc [])) ?_ ?_
              · intro f w_116 hJ
                obtain ⟨col_117, v_118, hm, hst, h0_0, hb_5, h_109, h_113, hB_55, hs1, hs10, hs42, hs5, hs6, hs8, hs1000000⟩ := hJ
                rw [m_credencelaw18_drawn_J6.eq_1] at hm
                refine .ld (d := 1) (v := (.pointer (some ⟨g_1, 0, none⟩))) hs1 ?_
                refine .ld (d := 10) (v := (.int .i64 i_107)) hs10 ?_
                refine .ld (d := 42) (v := (.bool v_118)) hs42 ?_
                refine .ld (d := 5) (v := (.int .i64 r_6)) hs5 ?_
                refine .ld (d := 6) (v := (.pointer (some ⟨o_19.g, 0, none⟩))) hs6 ?_
                refine .ld (d := 8) (v := (.pointer (some ⟨g_54, 0, none⟩))) hs8 ?_
                refine .ld (d := 1000000) (v := (enc [])) hs1000000 ?_
                clear hs1 hs10 hs42 hs5 hs6 hs8 hs1000000
                refine wcond (v_118) rfl (fun hb => ?_) (fun hb => ?_)
                · rw [if_pos hb] at hm
                  clear hb
                  refine wskip ?_
                  refine wseq ?_
                  refine wblock ?_
                  refine wseq ?_
                  refine wmix (col := col_117) [(0, 1), (1, 1), (2, 0), (3, 1), (4, 1), (5, 0), (6, 1), (8, 1), (9, 0), (10, 1), (11, 1), (12, 1), (13, 0), (14, 1), (7, 3), (15, 3), (16, 2)] (by kernel_rfl) (by kernel_rfl) ?_
                  refine xu (v := (.pointer (some ⟨o_19.g, 0, none⟩))) rfl rfl (fun _ => r_move rfl) ?_
                  refine xu (v := (.pointer ((some (⟨g_1, 0, none⟩ : Addr)).map (·.add 1)))) rfl rfl (fun _ => r_fieldAddr (sz := 1) (off := 1) Try.underlying59 rfl Try.sizeOf22 (by decide) rfl rfl ⟨_, _, rfl⟩) ?_
                  refine xv (v := (.slice a0_0 p0_d.2.length cap0_0)) rfl rfl (fun _ hC => r_ld Try.isAgg22 rfl (((hb_5.atN).nth (q := 1) (v := (.slice a0_0 p0_d.2.length cap0_0)) rfl).gr (Grow.of_below (col := col_117) hC.below))) ?_
                  refine xu (v := (.int .i64 i_107)) rfl rfl (fun _ => r_move rfl) ?_
                  obtain ⟨e_119, hj_120, hm⟩ := bind_some hm
                  refine xu (v := (sptr a0_0 (Int.toNat i_107 * 1))) rfl rfl (fun _ => r_idx Try.underlying22 Try.sizeOf3 rfl rfl (at?_some hj_120).1 (at?_some hj_120).2.1 (h0_0.addr hj_120)) ?_
                  refine xv (v := (.int .i64 e_119)) rfl rfl (fun _ hC => r_ld Try.isAgg3 rfl ((h0_0.gr (Grow.of_below (col := col_117) hC.below)).atInt hj_120)) ?_
                  refine xu (v := (.int .i64 r_6)) rfl rfl (fun _ => r_move rfl) ?_
                  refine xu (v := (.pointer ((some (⟨g_1, 0, none⟩ : Addr)).map (·.add 1)))) rfl rfl (fun _ => r_fieldAddr (sz := 1) (off := 1) Try.underlying59 rfl Try.sizeOf22 (by decide) rfl rfl ⟨_, _, rfl⟩) ?_
                  refine xv (v := (.slice a0_0 p0_d.2.length cap0_0)) rfl rfl (fun _ hC => r_ld Try.isAgg22 rfl (((hb_5.atN).nth (q := 1) (v := (.slice a0_0 p0_d.2.length cap0_0)) rfl).gr (Grow.of_below (col := col_117) hC.below))) ?_
                  refine xu (v := (.int .i64 i_107)) rfl rfl (fun _ => r_move rfl) ?_
                  refine xu (v := (.int .i64 (IntKind.i64.wrap (i_107 + 1)))) rfl rfl (fun _ => r_add i_107 1 rfl rfl) ?_
                  obtain ⟨e_121, hj_122, hm⟩ := bind_some hm
                  refine xu (v := (sptr a0_0 (Int.toNat (IntKind.i64.wrap (i_107 + 1)) * 1))) rfl rfl (fun _ => r_idx Try.underlying22 Try.sizeOf3 rfl rfl (at?_some hj_122).1 (at?_some hj_122).2.1 (h0_0.addr hj_122)) ?_
                  refine xv (v := (.int .i64 e_121)) rfl rfl (fun _ hC => r_ld Try.isAgg3 rfl ((h0_0.gr (Grow.of_below (col := col_117) hC.below)).atInt hj_122)) ?_
                  refine xu (v := (.int .i64 r_6)) rfl rfl (fun _ => r_move rfl) ?_
                  refine xe rfl rfl ?_
                  intro w_123 hC0
                  have hC : Grow col_117 w_116 col_117 w_123 := .of_below hC0.below
                  replace h0_0 := h0_0.gr hC
                  replace h_109 := h_109.gr hC
                  replace h_113 := h_113.gr hC
                  replace hb_5 := hb_5.gr hC
                  replace hB_55 := hB_55.gr hC
                  replace hst := hst.grow hC
                  obtain ⟨r_124, hr_125, hm⟩ := bind_some hm
                  refine lc rfl rfl (r_call2 Try.call48 rfl rfl) (c_credencelaw18_pick col_117 _ e_119 r_6 r_124 hr_125) ?_
                  rintro _ w_126 ⟨rfl, hg_127⟩
                  refine ⟨_, rfl, ?_⟩
                  replace hg_127 : Grow col_117 w_123 col_117 w_126 := .of_below hg_127
                  replace h0_0 := h0_0.gr hg_127
                  replace h_109 := h_109.gr hg_127
                  replace h_113 := h_113.gr hg_127
                  replace hb_5 := hb_5.gr hg_127
                  replace hB_55 := hB_55.gr hg_127
                  replace hst := hst.grow hg_127
                  refine lnil ⟨fun w' => Grow col_117 w_126 col_117 w', Grow.refl _ _, fun _ _ h => cls hC0 hg_127 h, ?_⟩
                  refine xe rfl rfl ?_
                  intro w_128 hC0
                  have hC : Grow col_117 w_126 col_117 w_128 := .of_below hC0.below
                  replace h0_0 := h0_0.gr hC
                  replace h_109 := h_109.gr hC
                  replace h_113 := h_113.gr hC
                  replace hb_5 := hb_5.gr hC
                  replace hB_55 := hB_55.gr hC
                  replace hst := hst.grow hC
                  obtain ⟨r_129, hr_130, hm⟩ := bind_some hm
                  refine lc rfl rfl (r_call2 Try.call48 rfl rfl) (c_credencelaw18_pick col_117 _ e_121 r_6 r_129 hr_130) ?_
                  rintro _ w_131 ⟨rfl, hg_132⟩
                  refine ⟨_, rfl, ?_⟩
                  replace hg_132 : Grow col_117 w_128 col_117 w_131 := .of_below hg_132
                  replace h0_0 := h0_0.gr hg_132
                  replace h_109 := h_109.gr hg_132
                  replace h_113 := h_113.gr hg_132
                  replace hb_5 := hb_5.gr hg_132
                  replace hB_55 := hB_55.gr hg_132
                  replace hst := hst.grow hg_132
                  refine lnil ⟨fun w' => Grow col_117 w_131 col_117 w', Grow.refl _ _, fun _ _ h => cls hC0 hg_132 h, ?_⟩
                  refine xe rfl rfl ?_
                  intro w_133 hC0
                  have hC : Grow col_117 w_131 col_117 w_133 := .of_below hC0.below
                  replace h0_0 := h0_0.gr hC
                  replace h_109 := h_109.gr hC
                  replace h_113 := h_113.gr hC
                  replace hb_5 := hb_5.gr hC
                  replace hB_55 := hB_55.gr hC
                  replace hst := hst.grow hC
                  obtain ⟨r_134, hr_135, hm⟩ := bind_some hm
                  refine lc rfl rfl (r_call3 Try.call23 rfl rfl rfl) (c_graph_Graph_Join col_117 _ 2 rfl o_19 g_108 r_124 r_129 h_109 r_134 hr_135) ?_
                  rintro _ w_137 ⟨col_139, rfl, hg_138, oh_136⟩
                  refine ⟨_, rfl, ?_⟩
                  replace h0_0 := h0_0.kpp hg_138 rfl
                  replace h_113 := h_113.kpp hg_138 rfl rfl
                  replace hb_5 := hb_5.kpp hg_138 rfl
                  replace hB_55 := hB_55.kpp hg_138 rfl
                  replace hst := hst.kpp hg_138 rfl rfl
                  clear h_109
                  refine lnil ⟨fun w' => Grow col_139 w_137 col_139 w', Grow.refl _ _, fun h => absurd h (by decide), ?_⟩
                  refine xnil ?_
                  intro w_140 hC
                  replace hC : Grow col_139 w_137 col_139 w_140 := .of_below hC.below
                  replace h0_0 := h0_0.gr hC
                  replace oh_136 := oh_136.gr hC
                  replace h_113 := h_113.gr hC
                  replace hb_5 := hb_5.gr hC
                  replace hB_55 := hB_55.gr hC
                  replace hst := hst.grow hC
                  refine wmix (col := col_139) [(0, 1), (1, 1), (2, 0), (3, 1), (4, 1), (5, 0), (6, 1), (8, 1), (9, 0), (10, 1), (11, 1), (12, 1), (13, 0), (14, 1), (7, 3), (15, 3), (16, 2)] (by kernel_rfl) (by kernel_rfl) ?_
                  refine xu (v := (.pointer (some ⟨g_54, 0, none⟩))) rfl rfl (fun _ => r_move rfl) ?_
                  refine xu (v := (.pointer ((some (⟨g_1, 0, none⟩ : Addr)).map (·.add 1)))) rfl rfl (fun _ => r_fieldAddr (sz := 1) (off := 1) Try.underlying59 rfl Try.sizeOf22 (by decide) rfl rfl ⟨_, _, rfl⟩) ?_
                  refine xv (v := (.slice a0_0 p0_d.2.length cap0_0)) rfl rfl (fun _ hC => r_ld Try.isAgg22 rfl (((hb_5.atN).nth (q := 1) (v := (.slice a0_0 p0_d.2.length cap0_0)) rfl).gr (Grow.of_below (col := col_139) hC.below))) ?_
                  refine xu (v := (.int .i64 i_107)) rfl rfl (fun _ => r_move rfl) ?_
                  refine xu (v := (sptr a0_0 (Int.toNat i_107 * 1))) rfl rfl (fun _ => r_idx Try.underlying22 Try.sizeOf3 rfl rfl (at?_some hj_120).1 (at?_some hj_120).2.1 (h0_0.addr hj_120)) ?_
                  refine xv (v := (.int .i64 e_119)) rfl rfl (fun _ hC => r_ld Try.isAgg3 rfl ((h0_0.gr (Grow.of_below (col := col_139) hC.below)).atInt hj_120)) ?_
                  refine xu (v := (.int .i64 r_6)) rfl rfl (fun _ => r_move rfl) ?_
                  refine xu (v := (.pointer ((some (⟨g_1, 0, none⟩ : Addr)).map (·.add 1)))) rfl rfl (fun _ => r_fieldAddr (sz := 1) (off := 1) Try.underlying59 rfl Try.sizeOf22 (by decide) rfl rfl ⟨_, _, rfl⟩) ?_
                  refine xv (v := (.slice a0_0 p0_d.2.length cap0_0)) rfl rfl (fun _ hC => r_ld Try.isAgg22 rfl (((hb_5.atN).nth (q := 1) (v := (.slice a0_0 p0_d.2.length cap0_0)) rfl).gr (Grow.of_below (col := col_139) hC.below))) ?_
                  refine xu (v := (.int .i64 i_107)) rfl rfl (fun _ => r_move rfl) ?_
                  refine xu (v := (.int .i64 (IntKind.i64.wrap (i_107 + 1)))) rfl rfl (fun _ => r_add i_107 1 rfl rfl) ?_
                  refine xu (v := (sptr a0_0 (Int.toNat (IntKind.i64.wrap (i_107 + 1)) * 1))) rfl rfl (fun _ => r_idx Try.underlying22 Try.sizeOf3 rfl rfl (at?_some hj_122).1 (at?_some hj_122).2.1 (h0_0.addr hj_122)) ?_
                  refine xv (v := (.int .i64 e_121)) rfl rfl (fun _ hC => r_ld Try.isAgg3 rfl ((h0_0.gr (Grow.of_below (col := col_139) hC.below)).atInt hj_122)) ?_
                  refine xu (v := (.int .i64 r_6)) rfl rfl (fun _ => r_move rfl) ?_
                  refine xe rfl rfl ?_
                  intro w_141 hC0
                  have hC : Grow col_139 w_140 col_139 w_141 := .of_below hC0.below
                  replace h0_0 := h0_0.gr hC
                  replace oh_136 := oh_136.gr hC
                  replace h_113 := h_113.gr hC
                  replace hb_5 := hb_5.gr hC
                  replace hB_55 := hB_55.gr hC
                  replace hst := hst.grow hC
                  obtain ⟨r_142, hr_143, hm⟩ := bind_some hm
                  refine lc rfl rfl (r_call2 Try.call48 rfl rfl) (c_credencelaw18_pick col_139 _ e_119 r_6 r_142 hr_143) ?_
                  rintro _ w_144 ⟨rfl, hg_145⟩
                  refine ⟨_, rfl, ?_⟩
                  replace hg_145 : Grow col_139 w_141 col_139 w_144 := .of_below hg_145
                  replace h0_0 := h0_0.gr hg_145
                  replace oh_136 := oh_136.gr hg_145
                  replace h_113 := h_113.gr hg_145
                  replace hb_5 := hb_5.gr hg_145
                  replace hB_55 := hB_55.gr hg_145
                  replace hst := hst.grow hg_145
                  refine lnil ⟨fun w' => Grow col_139 w_144 col_139 w', Grow.refl _ _, fun _ _ h => cls hC0 hg_145 h, ?_⟩
                  refine xe rfl rfl ?_
                  intro w_146 hC0
                  have hC : Grow col_139 w_144 col_139 w_146 := .of_below hC0.below
                  replace h0_0 := h0_0.gr hC
                  replace oh_136 := oh_136.gr hC
                  replace h_113 := h_113.gr hC
                  replace hb_5 := hb_5.gr hC
                  replace hB_55 := hB_55.gr hC
                  replace hst := hst.grow hC
                  obtain ⟨r_147, hr_148, hm⟩ := bind_some hm
                  refine lc rfl rfl (r_call2 Try.call48 rfl rfl) (c_credencelaw18_pick col_139 _ e_121 r_6 r_147 hr_148) ?_
                  rintro _ w_149 ⟨rfl, hg_150⟩
                  refine ⟨_, rfl, ?_⟩
                  replace hg_150 : Grow col_139 w_146 col_139 w_149 := .of_below hg_150
                  replace h0_0 := h0_0.gr hg_150
                  replace oh_136 := oh_136.gr hg_150
                  replace h_113 := h_113.gr hg_150
                  replace hb_5 := hb_5.gr hg_150
                  replace hB_55 := hB_55.gr hg_150
                  replace hst := hst.grow hg_150
                  refine lnil ⟨fun w' => Grow col_139 w_149 col_139 w', Grow.refl _ _, fun _ _ h => cls hC0 hg_150 h, ?_⟩
                  refine xe rfl rfl ?_
                  intro w_151 hC0
                  have hC : Grow col_139 w_149 col_139 w_151 := .of_below hC0.below
                  replace h0_0 := h0_0.gr hC
                  replace oh_136 := oh_136.gr hC
                  replace h_113 := h_113.gr hC
                  replace hb_5 := hb_5.gr hC
                  replace hB_55 := hB_55.gr hC
                  replace hst := hst.grow hC
                  obtain ⟨r_152, hr_153, hm⟩ := bind_some hm
                  refine lc rfl rfl (r_call3 Try.call65 rfl rfl rfl) (c_credenceref15_Graph_Join col_139 _ 5 6 rfl g_54 v_110 a_111 cap_112 r_142 r_147 h_113 hB_55 r_152 hr_153) ?_
                  rintro _ w_158 ⟨col_160, oa_154, oc_155, rfl, hg_159, oh_156, ohb_157⟩
                  refine ⟨_, rfl, ?_⟩
                  replace h0_0 := h0_0.kpp hg_159 rfl
                  replace oh_136 := oh_136.kpp hg_159 rfl rfl
                  replace hb_5 := hb_5.kpp hg_159 rfl
                  replace hst := hst.kpp hg_159 rfl rfl
                  clear hB_55
                  clear h_113
                  refine lnil ⟨fun w' => Grow col_160 w_158 col_160 w', Grow.refl _ _, fun h => absurd h (by decide), ?_⟩
                  refine xnil ?_
                  intro w_161 hC
                  replace hC : Grow col_160 w_158 col_160 w_161 := .of_below hC.below
                  replace h0_0 := h0_0.gr hC
                  replace oh_136 := oh_136.gr hC
                  replace oh_156 := oh_156.gr hC
                  replace hb_5 := hb_5.gr hC
                  replace ohb_157 := ohb_157.gr hC
                  replace hst := hst.grow hC
                  refine wregion ?_
                  refine lv (v := (.int .i64 i_107)) rfl rfl (r_move rfl) ?_
                  refine lv (v := (.int .i64 (IntKind.i64.wrap (i_107 + 2)))) rfl rfl (r_add i_107 2 rfl rfl) ?_
                  refine lv (v := (.int .i64 (IntKind.i64.wrap (i_107 + 2)))) rfl rfl (r_assign rfl) ?_
                  refine lnil ?_
                  exact ⟨n_104, by omega, ⟨col_160, (IntKind.i64.wrap (i_107 + 2)), r_134.2, oa_154, oc_155, r_152.2, n_104, rfl, hm, hst, h0_0, hb_5, oh_136, oh_156, ohb_157, rfl, rfl, rfl, rfl, rfl, rfl⟩⟩
                · rw [if_neg (by rw [hb]; decide)] at hm
                  clear hb
                  refine wexit (inB_hit ?_)
                  refine wseq ?_
                  refine wregion ?_
                  refine lv (v := (.pointer (some ⟨o_19.g, 0, none⟩))) rfl rfl (r_move rfl) ?_
                  refine lv (v := (.pointer (some ⟨g_54, 0, none⟩))) rfl rfl (r_move rfl) ?_
                  refine lv (v := (.pointer (some ⟨o_19.g, 0, none⟩))) rfl rfl (r_assign rfl) ?_
                  refine lv (v := (.pointer (some ⟨g_54, 0, none⟩))) rfl rfl (r_assign rfl) ?_
                  refine lv (v := (.bool true)) rfl rfl (r_assign rfl) ?_
                  refine lnil ?_
                  refine wret ?_
                  cases hm
                  exact ⟨rfl, colF w0.heap.size col col_117 (fun n => bif Nat.beq n 2 then c1 else bif Nat.beq n 5 then c2 else bif Nat.beq n 6 then c3 else 0), (.pointer (some ⟨o_19.g, 0, none⟩)), (.pointer (some ⟨g_54, 0, none⟩)), rfl, hst.fin (fun n => bif Nat.beq n 2 then c1 else bif Nat.beq n 5 then c2 else bif Nat.beq n 6 then c3 else 0), optP_of ⟨_, rfl, hst.finGO (G := (fun n => bif Nat.beq n 2 then c1 else bif Nat.beq n 5 then c2 else bif Nat.beq n 6 then c3 else 0)) rfl h_109 (by decide) (by decide) rfl⟩, optP_of ⟨g_54, a_111, cap_112, rfl, hst.finBox (G := (fun n => bif Nat.beq n 2 then c1 else bif Nat.beq n 5 then c2 else bif Nat.beq n 6 then c3 else 0)) hB_55 (by decide) (by decide) rfl, hst.finOwn (g := (fun n => bif Nat.beq n 2 then c1 else bif Nat.beq n 5 then c2 else bif Nat.beq n 6 then c3 else 0)) rfl h_113 (by decide) (by decide) rfl⟩⟩
              · refine wregion ?_
                refine lv (v := (.int .i64 i_107)) rfl rfl (r_move rfl) ?_
                refine lv (v := (.int .i64 (IntKind.i64.wrap (i_107 + 1)))) rfl rfl (r_add i_107 1 rfl rfl) ?_
                refine lv (v := (.pointer ((some (⟨g_1, 0, none⟩ : Addr)).map (·.add 1)))) rfl rfl (r_fieldAddr (sz := 1) (off := 1) Try.underlying59 rfl Try.sizeOf22 (by decide) rfl rfl ⟨_, _, rfl⟩) ?_
                refine lv (v := (.slice a0_0 p0_d.2.length cap0_0)) rfl rfl (r_ld Try.isAgg22 rfl ((hb_5.atN).nth (q := 1) (v := (.slice a0_0 p0_d.2.length cap0_0)) rfl)) ?_
                refine lv (v := (.int .i64 (p0_d.2.length : Int))) rfl rfl (r_len Try.underlying22 rfl) ?_
                refine lv (v := (.bool (decide ((IntKind.i64.wrap (i_107 + 1)) < (p0_d.2.length : Int))))) rfl rfl (r_lss (IntKind.i64.wrap (i_107 + 1)) (p0_d.2.length : Int) rfl rfl) ?_
                refine lv (v := (.bool (decide ((IntKind.i64.wrap (i_107 + 1)) < (p0_d.2.length : Int))))) rfl rfl (r_move rfl) ?_
                by_cases hg_162 : (decide ((IntKind.i64.wrap (i_107 + 1)) < (p0_d.2.length : Int))) = true
                · rw [if_pos hg_162] at hm
                  refine lg (b := decide ((IntKind.i64.wrap (i_107 + 1)) < (p0_d.2.length : Int))) 39 rfl rfl rfl (by rw [hg_162]; rfl) ?_
                  refine lv (v := (.int .i64 r_6)) rfl rfl (r_move rfl) ?_
                  refine lg (b := decide ((IntKind.i64.wrap (i_107 + 1)) < (p0_d.2.length : Int))) 39 rfl rfl rfl (by rw [hg_162]; rfl) ?_
                  refine lv (v := (.bool (decide (0 < r_6)))) rfl rfl (r_gtr r_6 0 rfl rfl) ?_
                  refine lv (v := (.bool (decide (0 < r_6)))) rfl rfl (r_pickT (congrArg Value.bool hg_162) rfl) ?_
                  refine lnil ?_
                  exact ⟨col_106, (decide (0 < r_6)), hm, hst, h0_0, hb_5, h_109, h_113, hB_55, rfl, rfl, rfl, rfl, rfl, rfl, rfl⟩
                · rw [if_neg hg_162] at hm
                  replace hg_162 := Bool.eq_false_iff.2 hg_162
                  refine lp (b := decide ((IntKind.i64.wrap (i_107 + 1)) < (p0_d.2.length : Int))) 39 rfl rfl rfl rfl (by rw [hg_162]; rfl) ?_
                  refine lp (b := decide ((IntKind.i64.wrap (i_107 + 1)) < (p0_d.2.length : Int))) 39 rfl rfl rfl rfl (by rw [hg_162]; rfl) ?_
                  refine lv (v := (.bool false)) rfl rfl (r_pickF (congrArg Value.bool hg_162) rfl) ?_
                  refine lnil ?_
                  exact ⟨col_106, false, hm, hst, h0_0, hb_5, h_109, h_113, hB_55, rfl, rfl, rfl, rfl, rfl, rfl, rfl⟩
        · refine wregion ?_
          refine lv (v := (.int .i64 r_10.2)) rfl rfl (r_move rfl) ?_
          refine lv (v := (.bool (!decide (r_10.2 = 0)))) rfl rfl (r_neq r_10.2 0 rfl rfl) ?_
          refine lv (v := (.bool (!decide (r_10.2 = 0)))) rfl rfl (r_move rfl) ?_
          by_cases hg_163 : (!decide (r_10.2 = 0)) = true
          · rw [if_pos hg_163] at hm
            refine lp (b := !decide (r_10.2 = 0)) 29 rfl rfl rfl rfl (by rw [hg_163]; rfl) ?_
            refine lp (b := !decide (r_10.2 = 0)) 29 rfl rfl rfl rfl (by rw [hg_163]; rfl) ?_
            refine lv (v := (.bool true)) rfl rfl (r_pickT (congrArg Value.bool hg_163) rfl) ?_
            refine lnil ?_
            exact ⟨col_51, true, hm, hst, h0_0, hb_5, hG_20, hO_58, hB_55, rfl, rfl, rfl, rfl, rfl, rfl⟩
          · rw [if_neg hg_163] at hm
            replace hg_163 := Bool.eq_false_iff.2 hg_163
            refine lg (b := !decide (r_10.2 = 0)) 29 rfl rfl rfl (by rw [hg_163]; rfl) ?_
            refine lv (v := (.pointer (some ⟨o_19.g, 0, none⟩))) rfl rfl (r_move rfl) ?_
            refine lg (b := !decide (r_10.2 = 0)) 29 rfl rfl rfl (by rw [hg_163]; rfl) ?_
            refine lv (v := (.bool false)) rfl rfl (r_eqlP1 ⟨_, Try.underlying24⟩ rfl rfl) ?_
            refine lv (v := (.bool false)) rfl rfl (r_pickF (congrArg Value.bool hg_163) rfl) ?_
            refine lnil ?_
            exact ⟨col_51, false, hm, hst, h0_0, hb_5, hG_20, hO_58, hB_55, rfl, rfl, rfl, rfl, rfl, rfl⟩




def m_order_wrong_v0n (p1_l : (List Int)) : Option Int :=
  some 2

set_option maxRecDepth 100000 in
set_option maxHeartbeats 2000000 in
theorem c_order_wrong_v0n (col : Col) (w0 : World) (a1 : Option Addr) (cap1 : Nat) (p1_l : (List Int)) (h1 : Sl (Rep.int .i64) col w0 a1 cap1 p1_l) (r : Int) (hm : m_order_wrong_v0n p1_l = some r) :
    Calls Try.prog 75 #[(.pointer none), (.slice a1 p1_l.length cap1)] w0 (fun e w' => e = .returned ((.int .i64 r)) ∧ Below w0.heap.size w0 w') := by
  refine calls_of1 4 (m := 32) (args := [(.pointer none), (.slice a1 p1_l.length cap1)]) Try.func75 rfl rfl rfl rfl rfl ?_
  rw [m_order_wrong_v0n.eq_1] at hm
  have hst := St.start col w0
  replace h1 := h1.keep (Stay.start col w0)
  refine wseq ?_
  refine wregion ?_
  refine lv (v := (.int .i64 0)) rfl rfl (r_assign rfl) ?_
  refine lnil ?_
  refine wseq ?_
  refine wseq ?_
  refine wregion ?_
  refine lv (v := (.pointer none)) rfl rfl (r_move rfl) ?_
  refine lv (v := (.bool true)) rfl rfl (r_eqlP0 ⟨_, Try.underlying24⟩ rfl rfl) ?_
  refine lnil ?_
  refine wcondT rfl ?_
  refine wseq ?_
  refine wregion ?_
  refine lv (v := (.int .i64 2)) rfl rfl (r_assign rfl) ?_
  refine lnil ?_
  refine wret ?_
  cases hm
  exact ⟨rfl, rfl, hst.below⟩




def m_order_copied_v0n  : Option (Option (List (List Bool))) :=
  none

set_option maxRecDepth 100000 in
set_option maxHeartbeats 2000000 in
theorem c_order_copied_v0n (c1 : Nat) (col : Col) (w0 : World)  (r : (Option (List (List Bool)))) (hm : m_order_copied_v0n = some r) :
    Calls Try.prog 76 #[(.pointer none)] w0 (fun e w' => ∃ (col' : Col) (rv1 : Value), e = .returned (rv1) ∧ Grow col w0 col' w' ∧ optP rv1 r (fun (d : List (List Bool)) => ∃ (o9 : GObj), rv1 = .pointer (some ⟨o9.g, 0, none⟩) ∧ GO 85 86 c1 col' w' o9 d)) := by
  refine calls_ofM1 2 (m := 22) (args := [(.pointer none)]) Try.func76 rfl rfl rfl rfl rfl ?_
  rw [m_order_copied_v0n.eq_1] at hm
  have hst := St.start col w0
  have hmk : Marks (col0 col) w0 [] := .nil
  refine wseq ?_
  refine wregion ?_
  refine lv (v := (.pointer none)) rfl rfl (r_assign rfl) ?_
  refine lnil ?_
  refine wseq ?_
  refine wregion ?_
  refine lv (v := (.pointer none)) rfl rfl (r_move rfl) ?_
  cases hm




def m_slices_Values_int_int_1_L1  : List Int → Option (List Int)
  | [] => some []
  | x_5 :: l_6 => ((m_slices_Values_int_int_1_L1 l_6) ).bind fun r_7 => some (x_5 :: r_7)

def m_slices_Values_int_int_1 (v0_v : List Int) : Option (List Int) :=
  m_slices_Values_int_int_1_L1 v0_v 

set_option maxRecDepth 100000 in
set_option maxHeartbeats 2000000 in
theorem c_slices_Values_int_int_1 (col : Col) (w0 : World) (g0 : Nat) (af0 : Option Addr) (capf0 : Nat) (v0_v : List Int) (hf0 : Sl (Rep.int .i64) col w0 af0 capf0 v0_v) (hb0 : Box 22 0 col w0 g0 #[(.slice af0 v0_v.length capf0)]) (r : List Int) (hm : m_slices_Values_int_int_1 v0_v = some r) :
    Goes Try.prog 108 [(.pointer (some ⟨g0, 0, none⟩))] (fun (y : Int) (col : Col) (w : World) (args : List Value) => args = [.int .i64 y]) r col w0 := by
  intro l J X hjs hxs hy hst
  refine calls_of0 (m := 16) (args := [.func (.yield l) #[] #[], (.pointer (some ⟨g0, 0, none⟩))]) Try.func108 rfl rfl rfl rfl ?_
  rw [m_slices_Values_int_int_1.eq_1] at hm
  refine wseq ?_
  refine wregion ?_
  refine lv (v := (.slice af0 v0_v.length capf0)) rfl rfl (r_ld Try.isAgg22 rfl hb0.at1) ?_
  refine lv (v := (.int .i64 (v0_v.length : Int))) rfl rfl (r_len Try.underlying22 rfl) ?_
  refine lv (v := (.int .i64 0)) rfl rfl (r_move rfl) ?_
  refine lnil ?_
  refine wblock ?_
  refine wloop (fun n f w_3 => ∃ (col_4 : Col) (r : List Int) (k_1 : Nat) (l_2 : List Int), n = l_2.length ∧ v0_v.drop k_1 = l_2 ∧ m_slices_Values_int_int_1_L1 l_2  = some r ∧ J r col_4 w_3 ∧ Sl (Rep.int .i64) col_4 w_3 af0 capf0 v0_v ∧ Box 22 0 col_4 w_3 g0 #[(.slice af0 v0_v.length capf0)] ∧ f 7 = (.int .i64 (k_1 : Int)) ∧ f 0 = (.func (.yield l) #[] #[]) ∧ f 5 = (.slice af0 v0_v.length capf0) ∧ f 6 = (.int .i64 (v0_v.length : Int)) ∧ f 1000000 = (enc [])) v0_v.length ⟨col, r, 0, v0_v, rfl, rfl, hm, hst, hf0, hb0, rfl, rfl, rfl, rfl, rfl⟩ ?_
  clear hm; intro n f w_3 hI
  obtain ⟨col_4, r, k_1, l_2, hn, hl, hm, hst, hf0, hb0, hs7, hs0, hs5, hs6, hs1000000⟩ := hI
  subst hn
  refine .ld (d := 7) (v := (.int .i64 (k_1 : Int))) hs7 ?_
  refine .ld (d := 0) (v := (.func (.yield l) #[] #[])) hs0 ?_
  refine .ld (d := 5) (v := (.slice af0 v0_v.length capf0)) hs5 ?_
  refine .ld (d := 6) (v := (.int .i64 (v0_v.length : Int))) hs6 ?_
  refine .ld (d := 1000000) (v := (enc [])) hs1000000 ?_
  clear hs7 hs0 hs5 hs6 hs1000000
  cases l_2 with
  | nil =>
    have hk : ¬ ((k_1 : Int) < (v0_v.length : Int)) := by have := List.drop_eq_nil_iff.1 hl; omega
    have hkb := decide_eq_false hk
    rw [m_slices_Values_int_int_1_L1.eq_1] at hm
    refine wseq ?_
    refine wregion ?_
    refine lv (v := (.bool (decide ((k_1 : Int) < (v0_v.length : Int))))) rfl rfl (r_lss (k_1 : Int) (v0_v.length : Int) rfl rfl) ?_
    refine lnil ?_
    refine wseq ?_
    refine wcondF (congrArg Value.bool hkb) ?_
    refine wexit (inB_hit ?_)
    cases hm
    exact ⟨rfl, ⟨_, rfl⟩, _, .inl hst⟩
  | cons x_5 l_6 =>
    obtain ⟨hat, hl2, hlt⟩ := drop_get hl
    have hk : (k_1 : Int) < (v0_v.length : Int) := by omega
    have hkb := decide_eq_true hk
    rw [m_slices_Values_int_int_1_L1.eq_2] at hm
    refine wseq ?_
    refine wregion ?_
    refine lv (v := (.bool (decide ((k_1 : Int) < (v0_v.length : Int))))) rfl rfl (r_lss (k_1 : Int) (v0_v.length : Int) rfl rfl) ?_
    refine lnil ?_
    refine wseq ?_
    refine wcondT (congrArg Value.bool hkb) ?_
    refine wskip ?_
    refine wseq ?_
    refine wblock ?_
    refine wseq ?_
    refine wregion ?_
    refine lv (v := (sptr af0 (Int.toNat (k_1 : Int) * 1))) rfl rfl (r_idx Try.underlying22 Try.sizeOf3 rfl rfl (at?_some hat).1 (at?_some hat).2.1 (hf0.addr hat)) ?_
    refine lv (v := (.int .i64 x_5)) rfl rfl (r_ld Try.isAgg3 rfl (hf0.atInt hat)) ?_
    refine lv (v := (.int .i64 x_5)) rfl rfl (r_assign rfl) ?_
    refine lnil ?_
    refine wseq ?_
    refine wregion ?_
    refine lv (v := (.func (.yield l) #[] #[])) rfl rfl (r_move rfl) ?_
    refine lv (v := (.int .i64 x_5)) rfl rfl (r_move rfl) ?_
    obtain ⟨r_7, hc_8m, hc_8⟩ := bind_some hm
    cases hc_8
    have hm := hc_8m
    clear hc_8m
    refine ly1 rfl rfl rfl (hy _ _ _ _ [(.int .i64 x_5)] hst rfl) ?_
    rintro _ w_9 ⟨col_10, hk_11, ⟨rfl, hJ⟩ | ⟨rfl, hX⟩⟩
    · refine ⟨_, rfl, ?_⟩
      clear hst
      replace hf0 := hf0.kpp hk_11 rfl
      replace hb0 := hb0.kpp hk_11 rfl
      have hst := hJ
      clear hJ
      refine lv (v := (.bool false)) rfl rfl (r_not true rfl) ?_
      refine lnil ?_
      refine wcondF rfl ?_
      refine wskip ?_
      refine wregion ?_
      refine lv (v := (.int .i64 (IntKind.i64.wrap ((k_1 : Int) + 1)))) rfl rfl (r_add (k_1 : Int) 1 rfl rfl) ?_
      refine lv (v := (.int .i64 (IntKind.i64.wrap ((k_1 : Int) + 1)))) rfl rfl (r_move rfl) ?_
      refine lnil ?_
      exact ⟨l_6.length, by simp, ⟨col_10, r_7, (k_1 + 1), l_6, rfl, hl2, hm, hst, hf0, hb0, (congrArg (Value.int .i64) (wrap_succ (Nat.lt_of_lt_of_le hlt hf0.1.1))), rfl, rfl, rfl, rfl⟩⟩
    · clear hm
      refine ⟨_, rfl, ?_⟩
      clear hst
      replace hf0 := hf0.kpp hk_11 rfl
      replace hb0 := hb0.kpp hk_11 rfl
      have hst := hX
      clear hX
      refine lv (v := (.bool true)) rfl rfl (r_not false rfl) ?_
      refine lnil ?_
      refine wcondT rfl ?_
      refine wret ?_
      exact ⟨rfl, ⟨_, rfl⟩, _, .inr hst⟩




def m_slices_Values_int_int (p0_s : (List Int)) : Option (List Int) :=
  m_slices_Values_int_int_1 p0_s

set_option maxRecDepth 100000 in
set_option maxHeartbeats 2000000 in
theorem c_slices_Values_int_int (col : Col) (w0 : World) (a0 : Option Addr) (cap0 : Nat) (p0_s : (List Int)) (h0 : Sl (Rep.int .i64) col w0 a0 cap0 p0_s) (r : (List Int)) (hm : m_slices_Values_int_int p0_s = some r) :
    Calls Try.prog 80 #[(.slice a0 p0_s.length cap0)] w0 (fun e w' => ∃ (col' : Col) (rv1 : Value), e = .returned (rv1) ∧ Grow col w0 col' w' ∧ It Try.prog rv1 (fun (y : Int) (col : Col) (w : World) (args : List Value) => args = [.int .i64 y]) r qz col' w') := by
  refine calls_of1 2 (m := 4) (args := [(.slice a0 p0_s.length cap0)]) Try.func80 rfl rfl rfl rfl rfl ?_
  rw [m_slices_Values_int_int.eq_1] at hm
  have hst := St.start col w0
  replace h0 := h0.keep (Stay.start col w0)
  refine wseq ?_
  refine wregion ?_
  refine l_box (col := (col0 col)) (v := (.slice a0 p0_s.length cap0)) 1 rfl rfl ?_
  intro g_1 w_2 col_3 hg_4 hb_5
  replace h0 := h0.gr hg_4
  replace hst := hst.grow hg_4
  replace hb_5 : Box 22 1 col_3 w_2 g_1 #[(.slice a0 p0_s.length cap0)] := hb_5
  refine lv (v := _) rfl rfl (r_assign rfl) ?_
  refine lnil ?_
  refine wseq ?_
  refine wregion ?_
  refine lv (v := (.func (.func 108) #[] #[(.pointer (some ⟨g_1, 0, none⟩))])) rfl rfl (r_func1 rfl) ?_
  refine lv (v := (.func (.func 108) #[] #[(.pointer (some ⟨g_1, 0, none⟩))])) rfl rfl (r_assign rfl) ?_
  refine lnil ?_
  refine wret ?_
  have hb_5f := hst.finBox (G := (fun n => bif Nat.beq n 1 then 0 else 0)) hb_5 (by decide) (by decide) (show (fun n => bif Nat.beq n 1 then 0 else 0) 1 = 0 from rfl)
  have h0f := hst.finSl (g := (fun n => bif Nat.beq n 1 then 0 else 0)) rfl h0
  refine ⟨rfl, colF w0.heap.size col col_3 (fun n => bif Nat.beq n 1 then 0 else 0), _, rfl, hst.fin (fun n => bif Nat.beq n 1 then 0 else 0), 108, [(.pointer (some ⟨g_1, 0, none⟩))], rfl, Try.call108, ?_⟩
  intro col9 w9 hs9 hk9
  replace hb_5f := hb_5f.itk hs9 hk9 rfl
  replace h0f := h0f.itk hs9 hk9 rfl
  exact c_slices_Values_int_int_1  col9 w9 g_1 a0 cap0 p0_s h0f hb_5f r hm



set_option maxRecDepth 100000 in
theorem el3_110V0N : ElemOk Try.prog 3 1 8 := ⟨Try.t3, _, rfl, rfl, rfl, rfl, rfl⟩

def m_slices_AppendSeq_int_int_v0n_L1  : List Int → (List Int) → Option (List Int)
  | [], s_8 => some s_8
  | y_12 :: l_13, s_8 => chk ((s_8.length + [y_12].length) * 8 ≤ 140737488355328 ∧ s_8.length + [y_12].length ≤ maxLen) ((m_slices_AppendSeq_int_int_v0n_L1 l_13) (s_8 ++ [y_12]))

def m_slices_AppendSeq_int_int_v0n (p1_seq : List Int) : Option (List Int) :=
  m_slices_AppendSeq_int_int_v0n_L1 p1_seq ([] : List Int)

set_option maxRecDepth 100000 in
set_option maxHeartbeats 2000000 in
theorem c_slices_AppendSeq_int_int_v0n (c1 : Nat) (col : Col) (w0 : World) (v1 : Value) (p1_seq : List Int) (h1 : It Try.prog v1 (fun (y : Int) (col : Col) (w : World) (args : List Value) => args = [.int .i64 y]) p1_seq qz col w0) (r : (List Int)) (hm : m_slices_AppendSeq_int_int_v0n p1_seq = some r) :
    Calls Try.prog 110 #[(.slice none 0 0), v1] w0 (fun e w' => ∃ (col' : Col) (ra1 : Option Addr) (rc2 : Nat), e = .returned ((.slice ra1 r.length rc2)) ∧ Grow col w0 col' w' ∧ Own (Rep.int .i64) 3 c1 col' w' ra1 rc2 r) := by
  refine calls_ofM1 4 (m := 13) (args := [(.slice none 0 0), v1]) Try.func110 rfl rfl rfl rfl rfl ?_
  rw [m_slices_AppendSeq_int_int_v0n.eq_1] at hm
  have hst := St.start col w0
  replace h1 := h1.keep (Stay.start col w0)
  have hmk : Marks (col0 col) w0 [] := .nil
  refine wseq ?_
  refine wregion ?_
  refine l_box (col := (col0 col)) (v := (.slice none (([] : List Int).length) 0)) 1 rfl rfl ?_
  intro g_1 w_2 col_3 hg_4 hb_5
  replace h1 := h1.gr hg_4
  replace hmk := hmk.gr hg_4
  replace hst := hst.grow hg_4
  replace hb_5 : Box 22 1 col_3 w_2 g_1 #[(.slice none (([] : List Int).length) 0)] := hb_5
  refine lv (v := (.slice none (([] : List Int).length) 0)) rfl rfl (r_assign rfl) ?_
  refine lnil ?_
  refine wseq ?_
  refine wseq ?_
  refine wregion ?_
  refine lv (v := v1) rfl rfl (r_move rfl) ?_
  refine lnil ?_
  refine wblock ?_
  refine wrange (psl := [7]) (arr := (fun (y : Int) (col : Col) (w : World) (args : List Value) => args = [.int .i64 y])) (ys := p1_seq) (col := col_3) 498 rfl h1 rfl hmk rfl rfl (by rintro _ _ _ _ rfl; rfl) (fun ys_ col_7 w_6 => ∃ (a_9 : Option Addr) (cap_10 : Nat) (s_8 : List Int), m_slices_AppendSeq_int_int_v0n_L1 ys_ s_8 = some r ∧ St w0 (col0 col) col_7 w_6 ∧ Own (Rep.int .i64) 3 2 col_7 w_6 a_9 cap_10 s_8 ∧ Box 22 1 col_7 w_6 g_1 #[(.slice a_9 s_8.length cap_10)]) (fun _ _ _ => False) ?_ ?_ ⟨none, 0, ([] : List Int), hm, hst, Own.nil, hb_5⟩ ?_ ?_ ?_
  · intro ys_ col_7 w_6 col2_ w2_ hJ hk
    obtain ⟨a_9, cap_10, s_8, hm, hst, h_11, hb_5⟩ := hJ
    exact ⟨a_9, cap_10, s_8, hm, hst.kpp hk rfl rfl, h_11.kpp hk rfl rfl, hb_5.kpp hk rfl⟩
  · intro _ _ _ _ _ h _
    exact h
  · intro l_18 rc_19 ds_20 y_12 l_13 col_7 w_6 args hJ hrec hmk harr
    obtain ⟨a_9, cap_10, s_8, hm, hst, h_11, hb_5⟩ := hJ
    rw [m_slices_AppendSeq_int_int_v0n_L1.eq_2] at hm
    have hki := KeepP.refl pCo col_7 w_6
    subst harr
    refine wregion ?_
    refine lv (v := (.int .i64 y_12)) rfl rfl (r_assign rfl) ?_
    refine lnil ?_
    refine ⟨_, hrec, ?_⟩
    intro w_21 rc_22 hk_23 hs_24 hrec2
    replace h_11 := h_11.kp hk_23 (by decide) (by decide)
    replace hb_5 := hb_5.kp hk_23 (by decide)
    replace hmk := hmk.kp hk_23 (by decide)
    replace hki := hki.kp hk_23 hs_24 rfl
    replace hst := hst.kp hk_23 hs_24 (by decide) (by decide)
    clear hrec
    have hrec := hrec2
    clear hrec2
    refine wblock ?_
    refine wregion ?_
    refine lv (v := (.slice a_9 s_8.length cap_10)) rfl rfl (r_ld Try.isAgg22 rfl hb_5.at1) ?_
    refine lv (v := (.int .i64 y_12)) rfl rfl (r_move rfl) ?_
    refine l_lit (col := col_7) (r := (Rep.int .i64)) (xs := [y_12]) [(.int .i64 y_12)] 3 rfl Try.underlying22 el3_110V0N rfl rfl rfl rfl rfl rfl (by intro v hv; simp only [List.mem_cons, List.not_mem_nil, or_false] at hv; subst hv; rfl) (RowsH.ofF (Rows.consF (r := (Rep.int .i64)) (x := y_12) (cs := [(.int .i64 y_12)]) (rd_int .i64 y_12) Rows.nil0)) ?_
    intro a_25 w_26 col_27 hg_28 h_29
    replace h_11 := h_11.gr hg_28
    replace hb_5 := hb_5.gr hg_28
    replace hrec := hrec.gr hg_28
    replace hmk := hmk.gr hg_28
    replace hki := hki.gr hg_28
    replace hst := hst.grow hg_28
    obtain ⟨hb_30, hm⟩ := chk_some hm
    refine l_ext (col := col_27) (w := w_26) (r := (Rep.int .i64)) (c := 2) (c2 := 2) (h_11.ex) (h_29.srcN (NB.int (k := .i64))) rfl Try.underlying22 el3_110V0N rfl rfl rfl hb_30.1 hb_30.2 (by decide) ?_
    intro a_31 cap_32 w_33 col_34 hk_35 h_36
    replace h_29 := h_29.kpp hk_35 rfl rfl
    replace hb_5 := hb_5.kpp hk_35 rfl
    replace hrec := hrec.kpp hk_35 rfl
    replace hmk := hmk.kpp hk_35 rfl
    replace hki := hki.trans (hk_35.mono (by first | exact pCo_p2 rfl | exact pCo_p1 rfl | exact pCo_pS rfl | decide))
    replace hst := hst.kpp hk_35 rfl rfl
    clear h_11
    refine l_bstore (v := (.slice a_31 ((s_8 ++ [y_12]).length) cap_32)) hb_5 Try.sizeOf22 rfl rfl (by intro u hu; simp only [Value.cells, List.mem_cons, List.not_mem_nil, or_false] at hu; subst hu; rfl) rfl rfl ?_
    intro w_37 hk_38 hs_39 hb_40
    replace h_36 := h_36.kp hk_38 (by decide) (by decide)
    replace hrec := hrec.kp hk_38 (by decide)
    replace hmk := hmk.kp hk_38 (by decide)
    replace hki := hki.kp hk_38 hs_39 rfl
    replace hst := hst.kp hk_38 hs_39 (by decide) (by decide)
    clear hb_5
    replace hb_40 : Box 22 1 col_34 w_37 g_1 #[(.slice a_31 ((s_8 ++ [y_12]).length) cap_32)] := hb_40
    have h_41 := h_36.new
    clear h_36
    refine lnil ?_
    exact ⟨_, hki, ⟨a_31, cap_32, (s_8 ++ [y_12]), hm, hst, h_41, hb_40⟩, hrec, hmk⟩
  · clear hmk
    intro D_14 col_7 w_6 hJ hmk
    obtain ⟨a_9, cap_10, s_8, hm, hst, h_11, hb_5⟩ := hJ
    rw [m_slices_AppendSeq_int_int_v0n_L1.eq_1] at hm
    refine wseq ?_
    refine wregion ?_
    refine lv (v := (.slice a_9 s_8.length cap_10)) rfl rfl (r_ld Try.isAgg22 rfl hb_5.at1) ?_
    refine lv (v := (.slice a_9 s_8.length cap_10)) rfl rfl (r_assign rfl) ?_
    refine lnil ?_
    refine wret ?_
    cases hm
    refine ⟨_, (D_14 :: []), rfl, hmk, ?_⟩
    intro w_15 hk_16 hs_17
    clear hmk
    replace h_11 := h_11.kp hk_16 (by decide) (by decide)
    replace hst := hst.kp hk_16 hs_17 (by decide) (by decide)
    exact ⟨colF w0.heap.size col col_7 (fun n => bif Nat.beq n 2 then c1 else 0), a_9, cap_10, rfl, hst.fin (fun n => bif Nat.beq n 2 then c1 else 0), hst.finOwn (g := (fun n => bif Nat.beq n 2 then c1 else 0)) rfl h_11 (by decide) (by decide) rfl⟩
  · intro _ _ _ _ h
    exact h.elim




def m_slices_Collect_int (p0_seq : List Int) : Option (List Int) :=
  (m_slices_AppendSeq_int_int_v0n p0_seq).bind fun r_1 => some r_1

set_option maxRecDepth 100000 in
set_option maxHeartbeats 2000000 in
theorem c_slices_Collect_int (c1 : Nat) (col : Col) (w0 : World) (v0 : Value) (p0_seq : List Int) (h0 : It Try.prog v0 (fun (y : Int) (col : Col) (w : World) (args : List Value) => args = [.int .i64 y]) p0_seq qz col w0) (r : (List Int)) (hm : m_slices_Collect_int p0_seq = some r) :
    Calls Try.prog 86 #[v0] w0 (fun e w' => ∃ (col' : Col) (ra1 : Option Addr) (rc2 : Nat), e = .returned ((.slice ra1 r.length rc2)) ∧ Grow col w0 col' w' ∧ Own (Rep.int .i64) 3 c1 col' w' ra1 rc2 r) := by
  refine calls_of1 2 (m := 5) (args := [v0]) Try.func86 rfl rfl rfl rfl rfl ?_
  rw [m_slices_Collect_int.eq_1] at hm
  have hst := St.start col w0
  replace h0 := h0.keep (Stay.start col w0)
  refine wseq ?_
  refine wregion ?_
  refine lv (v := (.slice none (([] : List Int).length) 0)) rfl rfl (r_assign rfl) ?_
  refine lnil ?_
  refine wseq ?_
  refine wregion ?_
  refine lv (v := v0) rfl rfl (r_move rfl) ?_
  obtain ⟨r_1, hr_2, hm⟩ := bind_some hm
  refine lc rfl rfl (r_call2 Try.call110 rfl rfl) (c_slices_AppendSeq_int_int_v0n 1 (col0 col) _ v0 p0_seq h0 r_1 hr_2) ?_
  rintro _ w_6 ⟨col_8, ra_3, rc_4, rfl, hg_7, rh_5⟩
  refine ⟨_, rfl, ?_⟩
  replace h0 := h0.gr hg_7
  replace hst := hst.grow hg_7
  refine lv (v := (.slice ra_3 r_1.length rc_4)) rfl rfl (r_assign rfl) ?_
  refine lnil ?_
  refine wret ?_
  cases hm
  exact ⟨rfl, colF w0.heap.size col col_8 (fun n => bif Nat.beq n 1 then c1 else 0), ra_3, rc_4, rfl, hst.fin (fun n => bif Nat.beq n 1 then c1 else 0), hst.finOwn (g := (fun n => bif Nat.beq n 1 then c1 else 0)) rfl rh_5 (by decide) (by decide) rfl⟩



theorem c_slices_Sort_int_int (col : Col) (w0 : World) (qc0 : Nat) (hd : dstB [qc0] = true) (a0 : Option Addr) (cap0 : Nat) (p0_x : (List Int)) (h0 : Own (Rep.int .i64) 3 qc0 col w0 a0 cap0 p0_x) (r : (List Int)) (hm : lib_sort p0_x = some r) :
    Calls Try.prog 68 #[(.slice a0 p0_x.length cap0)] w0 (fun e w' => ∃ (col' : Col), e = .returned (.tuple #[]) ∧ KeepP (pS [qc0]) col w0 col' w' ∧ Own (Rep.int .i64) 3 qc0 col' w' a0 cap0 r ∧ r.length = p0_x.length) :=
  sort_int Try.slices_Sort_int Try.slices_Sort_int_none col w0 qc0 hd a0 cap0 p0_x h0 r hm




def m_slices_Sorted_int (p0_seq : List Int) : Option (List Int) :=
  (m_slices_Collect_int p0_seq).bind fun r_1 => (lib_sort r_1).bind fun r_9 => some r_9

set_option maxRecDepth 100000 in
set_option maxHeartbeats 2000000 in
theorem c_slices_Sorted_int (c1 : Nat) (col : Col) (w0 : World) (v0 : Value) (p0_seq : List Int) (h0 : It Try.prog v0 (fun (y : Int) (col : Col) (w : World) (args : List Value) => args = [.int .i64 y]) p0_seq qz col w0) (r : (List Int)) (hm : m_slices_Sorted_int p0_seq = some r) :
    Calls Try.prog 55 #[v0] w0 (fun e w' => ∃ (col' : Col) (ra1 : Option Addr) (rc2 : Nat), e = .returned ((.slice ra1 r.length rc2)) ∧ Grow col w0 col' w' ∧ Own (Rep.int .i64) 3 c1 col' w' ra1 rc2 r) := by
  refine calls_of1 2 (m := 9) (args := [v0]) Try.func55 rfl rfl rfl rfl rfl ?_
  rw [m_slices_Sorted_int.eq_1] at hm
  have hst := St.start col w0
  replace h0 := h0.keep (Stay.start col w0)
  refine wseq ?_
  refine wregion ?_
  refine lv (v := (.slice none (([] : List Int).length) 0)) rfl rfl (r_assign rfl) ?_
  refine lnil ?_
  refine wseq ?_
  refine wregion ?_
  refine lv (v := v0) rfl rfl (r_move rfl) ?_
  obtain ⟨r_1, hr_2, hm⟩ := bind_some hm
  refine lc rfl rfl (r_call1 Try.call86 rfl) (c_slices_Collect_int 1 (col0 col) _ v0 p0_seq h0 r_1 hr_2) ?_
  rintro _ w_6 ⟨col_8, ra_3, rc_4, rfl, hg_7, rh_5⟩
  refine ⟨_, rfl, ?_⟩
  replace h0 := h0.gr hg_7
  replace hst := hst.grow hg_7
  refine lv (v := (.slice ra_3 r_1.length rc_4)) rfl rfl (r_assign rfl) ?_
  refine lnil ?_
  refine wseq ?_
  refine wregion ?_
  refine lv (v := (.slice ra_3 r_1.length rc_4)) rfl rfl (r_move rfl) ?_
  obtain ⟨r_9, hr_10, hm⟩ := bind_some hm
  refine lc rfl rfl (r_call1 Try.call68 rfl) (c_slices_Sort_int_int col_8 _ 1 rfl ra_3 rc_4 r_1 rh_5 r_9 hr_10) ?_
  rintro _ w_13 ⟨col_15, rfl, hg_14, oh_11, ohl_12⟩
  refine ⟨_, rfl, ?_⟩
  replace hst := hst.kpp hg_14 rfl rfl
  clear rh_5
  refine .ld (d := 3) (v := (.slice ra_3 r_9.length rc_4)) (congrArg (fun n => Value.slice ra_3 n rc_4) (show r_1.length = r_9.length from ohl_12.symm)) ?_
  refine .ld (d := 6) (v := (.slice ra_3 r_9.length rc_4)) (congrArg (fun n => Value.slice ra_3 n rc_4) (show r_1.length = r_9.length from ohl_12.symm)) ?_
  refine lnil ?_
  refine wseq ?_
  refine wregion ?_
  refine lv (v := (.slice ra_3 r_9.length rc_4)) rfl rfl (r_move rfl) ?_
  refine lv (v := (.slice ra_3 r_9.length rc_4)) rfl rfl (r_assign rfl) ?_
  refine lnil ?_
  refine wret ?_
  cases hm
  exact ⟨rfl, colF w0.heap.size col col_15 (fun n => bif Nat.beq n 1 then c1 else 0), ra_3, rc_4, rfl, hst.fin (fun n => bif Nat.beq n 1 then c1 else 0), hst.finOwn (g := (fun n => bif Nat.beq n 1 then c1 else 0)) rfl oh_11 (by decide) (by decide) rfl⟩




def m_graph_Graph_Near (p0_g : List (List Bool)) (p1_a : Int) : Option (List Int) :=
  (m_graph_Graph_in p0_g p1_a).bind fun r_1 => if (!r_1) = true then (some ([] : List Int)) else ((at? p0_g p1_a).bind fun row_5 => chk (row_5.length ≤ 1048576) (some (gkeys row_5)))

set_option maxRecDepth 100000 in
set_option maxHeartbeats 2000000 in
theorem c_graph_Graph_Near (c1 : Nat) (col : Col) (w0 : World) (qc0 : Nat) (hqqc0 : qc0 ≠ 0) (o0 : GObj) (p0_g : List (List Bool)) (p1_a : Int) (h0 : GO 85 86 qc0 col w0 o0 p0_g) (r : (List Int)) (hm : m_graph_Graph_Near p0_g p1_a = some r) :
    Calls Try.prog 22 #[(.pointer (some ⟨o0.g, 0, none⟩)), (.int .i64 p1_a)] w0 (fun e w' => ∃ (col' : Col) (ra1 : Option Addr) (rc2 : Nat), e = .returned ((.slice ra1 r.length rc2)) ∧ Grow col w0 col' w' ∧ Own (Rep.int .i64) 3 c1 col' w' ra1 rc2 r) := by
  refine calls_of1 4 (m := 18) (args := [(.pointer (some ⟨o0.g, 0, none⟩)), (.int .i64 p1_a)]) Try.func22 rfl rfl rfl rfl rfl ?_
  rw [m_graph_Graph_Near.eq_1] at hm
  have hst := St.start col w0
  replace h0 := h0.start0 hqqc0
  refine wseq ?_
  refine wregion ?_
  refine lv (v := (.slice none (([] : List Int).length) 0)) rfl rfl (r_assign rfl) ?_
  refine lnil ?_
  refine wseq ?_
  refine wseq ?_
  refine wregion ?_
  refine lv (v := (.pointer (some ⟨o0.g, 0, none⟩))) rfl rfl (r_move rfl) ?_
  refine lv (v := (.int .i64 p1_a)) rfl rfl (r_move rfl) ?_
  obtain ⟨r_1, hr_2, hm⟩ := bind_some hm
  refine lc rfl rfl (r_call2 Try.call54 rfl rfl) (c_graph_Graph_in (col0 col) _ 999 (by decide) o0 p0_g p1_a h0 r_1 hr_2) ?_
  rintro _ w_3 ⟨rfl, hg_4⟩
  refine ⟨_, rfl, ?_⟩
  replace hg_4 : Grow (col0 col) w0 (col0 col) w_3 := .of_below hg_4
  replace h0 := h0.gr hg_4
  replace hst := hst.grow hg_4
  refine lv (v := (.bool (!r_1))) rfl rfl (r_not r_1 rfl) ?_
  refine lnil ?_
  refine wcond (!r_1) rfl (fun hb => ?_) (fun hb => ?_)
  · rw [if_pos hb] at hm
    clear hb
    refine wseq ?_
    refine wregion ?_
    refine lv (v := (.slice none (([] : List Int).length) 0)) rfl rfl (r_assign rfl) ?_
    refine lnil ?_
    refine wret ?_
    cases hm
    exact ⟨rfl, colF w0.heap.size col (col0 col) (fun n => 0), none, 0, rfl, hst.fin (fun n => 0), Own.nil⟩
  · rw [if_neg (by rw [hb]; decide)] at hm
    clear hb
    refine wskip ?_
    refine wseq ?_
    refine wregion ?_
    refine lv (v := (.pointer (some ⟨o0.g, 0, none⟩))) rfl rfl (r_move rfl) ?_
    refine lv (v := (.pointer (some ⟨o0.g, 0, none⟩))) rfl rfl (r_nilCheck rfl) ?_
    refine lv (v := (.pointer ((some (⟨o0.g, 0, none⟩ : Addr)).map (·.add 0)))) rfl rfl (r_fieldAddr (sz := 1) (off := 0) Try.underlying85 rfl Try.sizeOf83 (by decide) rfl rfl ⟨_, _, rfl⟩) ?_
    refine lv (v := (.slice o0.a p0_g.length o0.cap)) rfl rfl (r_ld Try.isAgg83 rfl ((h0.box.atN).nth (q := 0) (v := (.slice o0.a p0_g.length o0.cap)) rfl)) ?_
    refine lv (v := (.int .i64 p1_a)) rfl rfl (r_move rfl) ?_
    obtain ⟨row_5, hj_6, hm⟩ := bind_some hm
    obtain ⟨b_7, hb_8, _, hb_9⟩ := h0.blk hj_6
    refine lv (v := (sptr o0.a (Int.toNat p1_a * 1))) rfl rfl (r_idx Try.underlying83 Try.sizeOf86 rfl rfl (at?_some hj_6).1 (at?_some hj_6).2.1 (h0.addr hb_8)) ?_
    refine lv (v := (.map (some b_7))) rfl rfl (r_ld Try.isAgg86 rfl (h0.at1 hb_8)) ?_
    refine lc rfl rfl (r_call1 Try.call56 rfl) (c_keys 1 b_7 (col0 col) _) ?_
    rintro _ w_10 ⟨col_11, g_12, rfl, hg_13, hb_14⟩
    refine ⟨_, rfl, ?_⟩
    replace h0 := h0.gr hg_13
    replace hst := hst.grow hg_13
    obtain ⟨hc_21, hm⟩ := chk_some hm
    refine lc rfl rfl (r_call1 Try.call55 rfl) (c_sortedKeys 2 1 999 b_7 g_12 col_11 _ row_5 hb_14 (h0.maps _ _ _ hb_9 (at?_some hj_6).2.2) hc_21) ?_
    rintro _ w_15 ⟨col_16, a_17, cap_18, rfl, hg_19, h_20⟩
    refine ⟨_, rfl, ?_⟩
    replace h0 := h0.gr hg_19
    replace hst := hst.grow hg_19
    refine lv (v := (.slice a_17 ((gkeys row_5).length) cap_18)) rfl rfl (r_assign rfl) ?_
    refine lnil ?_
    refine wret ?_
    cases hm
    exact ⟨rfl, colF w0.heap.size col col_16 (fun n => bif Nat.beq n 2 then c1 else 0), a_17, cap_18, rfl, hst.fin (fun n => bif Nat.beq n 2 then c1 else 0), hst.finOwn (g := (fun n => bif Nat.beq n 2 then c1 else 0)) rfl h_20 (by decide) (by decide) rfl⟩



set_option maxRecDepth 100000 in
theorem el47_53 : ElemOk Try.prog 47 2 16 := ⟨Try.t47, _, rfl, rfl, rfl, rfl, rfl⟩

def m_graph_Graph_wanting_J1 (kk_L2 : ((List (Int × Int)) → Option (List (Int × Int)))) (l_35 : List (Int × Int)) : Option (List (Int × Int)) :=
  kk_L2 l_35

def m_graph_Graph_wanting_L2 (p0_g : List (List Bool)) (k_9 : Nat) (kk_L1 : (Nat → (List (Int × Int)) → Option (List (Int × Int)))) (x_17 : Int) : List Int → (List (Int × Int)) → Option (List (Int × Int))
  | [], l_27 => kk_L1 (k_9 + 1) l_27
  | x_31 :: l_32, l_27 => (at? p0_g x_17).bind fun row_39 => if (!(gat row_39 x_31)) = true then (chk ((l_27.length + [(x_17, x_31)].length) * 16 ≤ 140737488355328 ∧ l_27.length + [(x_17, x_31)].length ≤ maxLen) (m_graph_Graph_wanting_J1 (m_graph_Graph_wanting_L2 p0_g k_9 kk_L1 x_17 l_32) (l_27 ++ [(x_17, x_31)]))) else (m_graph_Graph_wanting_J1 (m_graph_Graph_wanting_L2 p0_g k_9 kk_L1 x_17 l_32) l_27)

def m_graph_Graph_wanting_L1 (p0_g : List (List Bool)) (r_1 : (List Int)) : List Int → Nat → (List (Int × Int)) → Option (List (Int × Int))
  | [], k_9, l_13 => some l_13
  | x_17 :: l_18, k_9, l_13 => chk ((0 : Int) ≤ (IntKind.i64.wrap ((k_9 : Int) + 1)) ∧ (IntKind.i64.wrap ((k_9 : Int) + 1)) ≤ (r_1.length : Int)) (m_graph_Graph_wanting_L2 p0_g k_9 (m_graph_Graph_wanting_L1 p0_g r_1 l_18) x_17 (r_1.drop (Int.toNat (IntKind.i64.wrap ((k_9 : Int) + 1)))) l_13)

def m_graph_Graph_wanting (p0_g : List (List Bool)) (p1_a : Int) : Option (List (Int × Int)) :=
  (m_graph_Graph_Near p0_g p1_a).bind fun r_1 => m_graph_Graph_wanting_L1 p0_g r_1 r_1 0 ([] : List (Int × Int))

set_option maxRecDepth 100000 in
set_option maxHeartbeats 2000000 in
theorem c_graph_Graph_wanting (c1 : Nat) (col : Col) (w0 : World) (qc0 : Nat) (hqqc0 : qc0 ≠ 0) (o0 : GObj) (p0_g : List (List Bool)) (p1_a : Int) (h0 : GO 85 86 qc0 col w0 o0 p0_g) (r : (List (Int × Int))) (hm : m_graph_Graph_wanting p0_g p1_a = some r) :
    Calls Try.prog 53 #[(.pointer (some ⟨o0.g, 0, none⟩)), (.int .i64 p1_a)] w0 (fun e w' => ∃ (col' : Col) (ra1 : Option Addr) (rc2 : Nat), e = .returned ((.slice ra1 r.length rc2)) ∧ Grow col w0 col' w' ∧ Own (Rep.pair (Rep.int .i64) (Rep.int .i64)) 47 c1 col' w' ra1 rc2 r) := by
  refine calls_of1 4 (m := 49) (args := [(.pointer (some ⟨o0.g, 0, none⟩)), (.int .i64 p1_a)]) Try.func53 rfl rfl rfl rfl rfl ?_
  rw [m_graph_Graph_wanting.eq_1] at hm
  have hst := St.start col w0
  replace h0 := h0.start0 hqqc0
  refine wseq ?_
  refine wregion ?_
  refine lv (v := (.slice none (([] : List (Int × Int)).length) 0)) rfl rfl (r_assign rfl) ?_
  refine lnil ?_
  refine wseq ?_
  refine wregion ?_
  refine lv (v := (.slice none (([] : List (Int × Int)).length) 0)) rfl rfl (r_assign rfl) ?_
  refine lnil ?_
  refine wseq ?_
  refine wregion ?_
  refine lv (v := (.pointer (some ⟨o0.g, 0, none⟩))) rfl rfl (r_move rfl) ?_
  refine lv (v := (.int .i64 p1_a)) rfl rfl (r_move rfl) ?_
  obtain ⟨r_1, hr_2, hm⟩ := bind_some hm
  refine lc rfl rfl (r_call2 Try.call22 rfl rfl) (c_graph_Graph_Near 1 (col0 col) _ 999 (by decide) o0 p0_g p1_a h0 r_1 hr_2) ?_
  rintro _ w_6 ⟨col_8, ra_3, rc_4, rfl, hg_7, rh_5⟩
  refine ⟨_, rfl, ?_⟩
  replace h0 := h0.gr hg_7
  replace hst := hst.grow hg_7
  refine lv (v := (.slice ra_3 r_1.length rc_4)) rfl rfl (r_assign rfl) ?_
  refine lnil ?_
  refine wseq ?_
  refine wseq ?_
  refine wregion ?_
  refine lv (v := (.slice ra_3 r_1.length rc_4)) rfl rfl (r_move rfl) ?_
  refine lv (v := (.int .i64 (r_1.length : Int))) rfl rfl (r_len Try.underlying22 rfl) ?_
  refine lv (v := (.int .i64 0)) rfl rfl (r_move rfl) ?_
  refine lnil ?_
  refine wblock ?_
  replace h0 := h0.froz 1 (by decide)
  replace rh_5 := (rh_5).toSlF (Froz.int .i64)
  replace hst := hst.froz 1 (by decide) (by decide)
  refine wloop (fun n f w_11 => ∃ (col_12 : Col) (k_9 : Nat) (a_14 : Option Addr) (cap_15 : Nat) (l_13 : List (Int × Int)) (l_10 : List Int), n = l_10.length ∧ r_1.drop k_9 = l_10 ∧ m_graph_Graph_wanting_L1 p0_g r_1 l_10 k_9 l_13 = some r ∧ St w0 (col0 col) col_12 w_11 ∧ GO 85 86 999 col_12 w_11 o0 p0_g ∧ Sl (Rep.int .i64) col_12 w_11 ra_3 rc_4 r_1 ∧ Own (Rep.pair (Rep.int .i64) (Rep.int .i64)) 47 2 col_12 w_11 a_14 cap_15 l_13 ∧ f 16 = (.int .i64 (k_9 : Int)) ∧ f 0 = (.pointer (some ⟨o0.g, 0, none⟩)) ∧ f 14 = (.slice ra_3 r_1.length rc_4) ∧ f 15 = (.int .i64 (r_1.length : Int)) ∧ f 5 = (.slice a_14 l_13.length cap_15) ∧ f 6 = (.slice ra_3 r_1.length rc_4) ∧ f 1000000 = (enc [])) r_1.length ⟨(frC 1 col_8), 0, none, 0, ([] : List (Int × Int)), r_1, rfl, rfl, hm, hst, h0, rh_5, Own.nil, rfl, rfl, rfl, rfl, rfl, rfl, rfl⟩ ?_
  clear hm; intro n f w_11 hI
  obtain ⟨col_12, k_9, a_14, cap_15, l_13, l_10, hn, hl, hm, hst, h0, rh_5, h_16, hs16, hs0, hs14, hs15, hs5, hs6, hs1000000⟩ := hI
  subst hn
  refine .ld (d := 16) (v := (.int .i64 (k_9 : Int))) hs16 ?_
  refine .ld (d := 0) (v := (.pointer (some ⟨o0.g, 0, none⟩))) hs0 ?_
  refine .ld (d := 14) (v := (.slice ra_3 r_1.length rc_4)) hs14 ?_
  refine .ld (d := 15) (v := (.int .i64 (r_1.length : Int))) hs15 ?_
  refine .ld (d := 5) (v := (.slice a_14 l_13.length cap_15)) hs5 ?_
  refine .ld (d := 6) (v := (.slice ra_3 r_1.length rc_4)) hs6 ?_
  refine .ld (d := 1000000) (v := (enc [])) hs1000000 ?_
  clear hs16 hs0 hs14 hs15 hs5 hs6 hs1000000
  cases l_10 with
  | nil =>
    have hk : ¬ ((k_9 : Int) < (r_1.length : Int)) := by have := List.drop_eq_nil_iff.1 hl; omega
    have hkb := decide_eq_false hk
    rw [m_graph_Graph_wanting_L1.eq_1] at hm
    refine wseq ?_
    refine wregion ?_
    refine lv (v := (.bool (decide ((k_9 : Int) < (r_1.length : Int))))) rfl rfl (r_lss (k_9 : Int) (r_1.length : Int) rfl rfl) ?_
    refine lnil ?_
    refine wseq ?_
    refine wcondF (congrArg Value.bool hkb) ?_
    refine wexit (inB_hit ?_)
    refine wseq ?_
    refine wregion ?_
    refine lv (v := (.slice a_14 l_13.length cap_15)) rfl rfl (r_move rfl) ?_
    refine lv (v := (.slice a_14 l_13.length cap_15)) rfl rfl (r_assign rfl) ?_
    refine lnil ?_
    refine wret ?_
    cases hm
    exact ⟨rfl, colF w0.heap.size col col_12 (fun n => bif Nat.beq n 2 then c1 else 0), a_14, cap_15, rfl, hst.fin (fun n => bif Nat.beq n 2 then c1 else 0), hst.finOwn (g := (fun n => bif Nat.beq n 2 then c1 else 0)) rfl h_16 (by decide) (by decide) rfl⟩
  | cons x_17 l_18 =>
    obtain ⟨hat, hl2, hlt⟩ := drop_get hl
    have hk : (k_9 : Int) < (r_1.length : Int) := by omega
    have hkb := decide_eq_true hk
    rw [m_graph_Graph_wanting_L1.eq_2] at hm
    refine wseq ?_
    refine wregion ?_
    refine lv (v := (.bool (decide ((k_9 : Int) < (r_1.length : Int))))) rfl rfl (r_lss (k_9 : Int) (r_1.length : Int) rfl rfl) ?_
    refine lnil ?_
    refine wseq ?_
    refine wcondT (congrArg Value.bool hkb) ?_
    refine wskip ?_
    refine wseq ?_
    refine wblock ?_
    refine wseq ?_
    refine wregion ?_
    refine lv (v := (.int .i64 (k_9 : Int))) rfl rfl (r_move rfl) ?_
    refine lv (v := (sptr ra_3 (Int.toNat (k_9 : Int) * 1))) rfl rfl (r_idx Try.underlying22 Try.sizeOf3 rfl rfl (at?_some hat).1 (at?_some hat).2.1 (rh_5.addr hat)) ?_
    refine lv (v := (.int .i64 x_17)) rfl rfl (r_ld Try.isAgg3 rfl (rh_5.atInt hat)) ?_
    refine lv (v := (.int .i64 (k_9 : Int))) rfl rfl (r_assign rfl) ?_
    refine lv (v := (.int .i64 x_17)) rfl rfl (r_assign rfl) ?_
    refine lnil ?_
    refine wseq ?_
    refine wregion ?_
    refine lv (v := (.slice ra_3 r_1.length rc_4)) rfl rfl (r_move rfl) ?_
    refine lv (v := (.int .i64 (k_9 : Int))) rfl rfl (r_move rfl) ?_
    refine lv (v := (.int .i64 (IntKind.i64.wrap ((k_9 : Int) + 1)))) rfl rfl (r_add (k_9 : Int) 1 rfl rfl) ?_
    obtain ⟨hb_19, hm⟩ := chk_some hm
    have h_22 := rh_5.drop (sz := 1) rfl (Int.toNat (IntKind.i64.wrap ((k_9 : Int) + 1)))
    refine lv (v := .slice (if rc_4 = (Int.toNat (IntKind.i64.wrap ((k_9 : Int) + 1))) then ra_3 else ra_3.map (·.add ((Int.toNat (IntKind.i64.wrap ((k_9 : Int) + 1))) * 1))) (r_1.length - (Int.toNat (IntKind.i64.wrap ((k_9 : Int) + 1)))) (rc_4 - (Int.toNat (IntKind.i64.wrap ((k_9 : Int) + 1))))) rfl rfl (r_sliceL Try.underlying22 Try.sizeOf3 rfl rfl hb_19.1 hb_19.2) ?_
    generalize (if rc_4 = (Int.toNat (IntKind.i64.wrap ((k_9 : Int) + 1))) then ra_3 else ra_3.map (·.add ((Int.toNat (IntKind.i64.wrap ((k_9 : Int) + 1))) * 1))) = a_20 at *
    refine .ld (d := 24) (v := (.slice a_20 ((r_1.drop (Int.toNat (IntKind.i64.wrap ((k_9 : Int) + 1)))).length) (rc_4 - (Int.toNat (IntKind.i64.wrap ((k_9 : Int) + 1)))))) (congrArg (fun n => Value.slice a_20 n (rc_4 - (Int.toNat (IntKind.i64.wrap ((k_9 : Int) + 1))))) (List.length_drop (i := (Int.toNat (IntKind.i64.wrap ((k_9 : Int) + 1)))) (l := r_1)).symm) ?_
    refine lv (v := (.int .i64 ((r_1.drop (Int.toNat (IntKind.i64.wrap ((k_9 : Int) + 1)))).length : Int))) rfl rfl (r_len Try.underlying22 rfl) ?_
    refine lv (v := (.int .i64 0)) rfl rfl (r_move rfl) ?_
    refine lnil ?_
    refine wblock ?_
    refine wloop (fun n f w_25 => ∃ (col_26 : Col) (k_23 : Nat) (a_28 : Option Addr) (cap_29 : Nat) (l_27 : List (Int × Int)) (l_24 : List Int), n = l_24.length ∧ (r_1.drop (Int.toNat (IntKind.i64.wrap ((k_9 : Int) + 1)))).drop k_23 = l_24 ∧ m_graph_Graph_wanting_L2 p0_g k_9 (m_graph_Graph_wanting_L1 p0_g r_1 l_18) x_17 l_24 l_27 = some r ∧ St w0 (col0 col) col_26 w_25 ∧ GO 85 86 999 col_26 w_25 o0 p0_g ∧ Sl (Rep.int .i64) col_26 w_25 ra_3 rc_4 r_1 ∧ Sl (Rep.int .i64) col_26 w_25 a_20 (rc_4 - (Int.toNat (IntKind.i64.wrap ((k_9 : Int) + 1)))) (r_1.drop (Int.toNat (IntKind.i64.wrap ((k_9 : Int) + 1)))) ∧ Own (Rep.pair (Rep.int .i64) (Rep.int .i64)) 47 2 col_26 w_25 a_28 cap_29 l_27 ∧ f 26 = (.int .i64 (k_23 : Int)) ∧ f 0 = (.pointer (some ⟨o0.g, 0, none⟩)) ∧ f 14 = (.slice ra_3 r_1.length rc_4) ∧ f 15 = (.int .i64 (r_1.length : Int)) ∧ f 16 = (.int .i64 (k_9 : Int)) ∧ f 24 = (.slice a_20 ((r_1.drop (Int.toNat (IntKind.i64.wrap ((k_9 : Int) + 1)))).length) (rc_4 - (Int.toNat (IntKind.i64.wrap ((k_9 : Int) + 1))))) ∧ f 25 = (.int .i64 ((r_1.drop (Int.toNat (IntKind.i64.wrap ((k_9 : Int) + 1)))).length : Int)) ∧ f 5 = (.slice a_28 l_27.length cap_29) ∧ f 6 = (.slice ra_3 r_1.length rc_4) ∧ f 8 = (.int .i64 x_17) ∧ f 1000000 = (enc [])) (r_1.drop (Int.toNat (IntKind.i64.wrap ((k_9 : Int) + 1)))).length ⟨col_12, 0, a_14, cap_15, l_13, (r_1.drop (Int.toNat (IntKind.i64.wrap ((k_9 : Int) + 1)))), rfl, rfl, hm, hst, h0, rh_5, h_22, h_16, rfl, rfl, rfl, rfl, rfl, rfl, rfl, rfl, rfl, rfl, rfl⟩ ?_
    clear hm; intro n f w_25 hI
    obtain ⟨col_26, k_23, a_28, cap_29, l_27, l_24, hn, hl, hm, hst, h0, rh_5, h_22, h_30, hs26, hs0, hs14, hs15, hs16, hs24, hs25, hs5, hs6, hs8, hs1000000⟩ := hI
    subst hn
    refine .ld (d := 26) (v := (.int .i64 (k_23 : Int))) hs26 ?_
    refine .ld (d := 0) (v := (.pointer (some ⟨o0.g, 0, none⟩))) hs0 ?_
    refine .ld (d := 14) (v := (.slice ra_3 r_1.length rc_4)) hs14 ?_
    refine .ld (d := 15) (v := (.int .i64 (r_1.length : Int))) hs15 ?_
    refine .ld (d := 16) (v := (.int .i64 (k_9 : Int))) hs16 ?_
    refine .ld (d := 24) (v := (.slice a_20 ((r_1.drop (Int.toNat (IntKind.i64.wrap ((k_9 : Int) + 1)))).length) (rc_4 - (Int.toNat (IntKind.i64.wrap ((k_9 : Int) + 1)))))) hs24 ?_
    refine .ld (d := 25) (v := (.int .i64 ((r_1.drop (Int.toNat (IntKind.i64.wrap ((k_9 : Int) + 1)))).length : Int))) hs25 ?_
    refine .ld (d := 5) (v := (.slice a_28 l_27.length cap_29)) hs5 ?_
    refine .ld (d := 6) (v := (.slice ra_3 r_1.length rc_4)) hs6 ?_
    refine .ld (d := 8) (v := (.int .i64 x_17)) hs8 ?_
    refine .ld (d := 1000000) (v := (enc [])) hs1000000 ?_
    clear hs26 hs0 hs14 hs15 hs16 hs24 hs25 hs5 hs6 hs8 hs1000000
    cases l_24 with
    | nil =>
      have hk : ¬ ((k_23 : Int) < ((r_1.drop (Int.toNat (IntKind.i64.wrap ((k_9 : Int) + 1)))).length : Int)) := by have := List.drop_eq_nil_iff.1 hl; omega
      have hkb := decide_eq_false hk
      rw [m_graph_Graph_wanting_L2.eq_1] at hm
      refine wseq ?_
      refine wregion ?_
      refine lv (v := (.bool (decide ((k_23 : Int) < ((r_1.drop (Int.toNat (IntKind.i64.wrap ((k_9 : Int) + 1)))).length : Int))))) rfl rfl (r_lss (k_23 : Int) ((r_1.drop (Int.toNat (IntKind.i64.wrap ((k_9 : Int) + 1)))).length : Int) rfl rfl) ?_
      refine lnil ?_
      refine wseq ?_
      refine wcondF (congrArg Value.bool hkb) ?_
      refine wexit (inB_hit ?_)
      refine wregion ?_
      refine lv (v := (.int .i64 (IntKind.i64.wrap ((k_9 : Int) + 1)))) rfl rfl (r_add (k_9 : Int) 1 rfl rfl) ?_
      refine lv (v := (.int .i64 (IntKind.i64.wrap ((k_9 : Int) + 1)))) rfl rfl (r_move rfl) ?_
      refine lnil ?_
      exact ⟨l_18.length, by simp, ⟨col_26, (k_9 + 1), a_28, cap_29, l_27, l_18, rfl, hl2, hm, hst, h0, rh_5, h_30, (congrArg (Value.int .i64) (wrap_succ (Nat.lt_of_lt_of_le hlt rh_5.1.1))), rfl, rfl, rfl, rfl, rfl, rfl⟩⟩
    | cons x_31 l_32 =>
      obtain ⟨hat, hl2, hlt⟩ := drop_get hl
      have hk : (k_23 : Int) < ((r_1.drop (Int.toNat (IntKind.i64.wrap ((k_9 : Int) + 1)))).length : Int) := by omega
      have hkb := decide_eq_true hk
      rw [m_graph_Graph_wanting_L2.eq_2] at hm
      refine wseq ?_
      refine wregion ?_
      refine lv (v := (.bool (decide ((k_23 : Int) < ((r_1.drop (Int.toNat (IntKind.i64.wrap ((k_9 : Int) + 1)))).length : Int))))) rfl rfl (r_lss (k_23 : Int) ((r_1.drop (Int.toNat (IntKind.i64.wrap ((k_9 : Int) + 1)))).length : Int) rfl rfl) ?_
      refine lnil ?_
      refine wseq ?_
      refine wcondT (congrArg Value.bool hkb) ?_
      refine wskip ?_
      refine wseq ?_
      refine Wp.cut (fun f w_33 => ∃ (col_34 : Col) (a_36 : Option Addr) (cap_37 : Nat) (l_35 : List (Int × Int)), m_graph_Graph_wanting_J1 (m_graph_Graph_wanting_L2 p0_g k_9 (m_graph_Graph_wanting_L1 p0_g r_1 l_18) x_17 l_32) l_35 = some r ∧ St w0 (col0 col) col_34 w_33 ∧ GO 85 86 999 col_34 w_33 o0 p0_g ∧ Sl (Rep.int .i64) col_34 w_33 ra_3 rc_4 r_1 ∧ Sl (Rep.int .i64) col_34 w_33 a_20 (rc_4 - (Int.toNat (IntKind.i64.wrap ((k_9 : Int) + 1)))) (r_1.drop (Int.toNat (IntKind.i64.wrap ((k_9 : Int) + 1)))) ∧ Own (Rep.pair (Rep.int .i64) (Rep.int .i64)) 47 2 col_34 w_33 a_36 cap_37 l_35 ∧ f 0 = (.pointer (some ⟨o0.g, 0, none⟩)) ∧ f 14 = (.slice ra_3 r_1.length rc_4) ∧ f 15 = (.int .i64 (r_1.length : Int)) ∧ f 16 = (.int .i64 (k_9 : Int)) ∧ f 24 = (.slice a_20 ((r_1.drop (Int.toNat (IntKind.i64.wrap ((k_9 : Int) + 1)))).length) (rc_4 - (Int.toNat (IntKind.i64.wrap ((k_9 : Int) + 1))))) ∧ f 25 = (.int .i64 ((r_1.drop (Int.toNat (IntKind.i64.wrap ((k_9 : Int) + 1)))).length : Int)) ∧ f 26 = (.int .i64 (k_23 : Int)) ∧ f 5 = (.slice a_36 l_35.length cap_37) ∧ f 6 = (.slice ra_3 r_1.length rc_4) ∧ f 8 = (.int .i64 x_17) ∧ f 1000000 = (enc [])) ?_ ?_
      · intro f w_33 hJ
        obtain ⟨col_34, a_36, cap_37, l_35, hm, hst, h0, rh_5, h_22, h_38, hs0, hs14, hs15, hs16, hs24, hs25, hs26, hs5, hs6, hs8, hs1000000⟩ := hJ
        rw [m_graph_Graph_wanting_J1.eq_1] at hm
        refine .ld (d := 0) (v := (.pointer (some ⟨o0.g, 0, none⟩))) hs0 ?_
        refine .ld (d := 14) (v := (.slice ra_3 r_1.length rc_4)) hs14 ?_
        refine .ld (d := 15) (v := (.int .i64 (r_1.length : Int))) hs15 ?_
        refine .ld (d := 16) (v := (.int .i64 (k_9 : Int))) hs16 ?_
        refine .ld (d := 24) (v := (.slice a_20 ((r_1.drop (Int.toNat (IntKind.i64.wrap ((k_9 : Int) + 1)))).length) (rc_4 - (Int.toNat (IntKind.i64.wrap ((k_9 : Int) + 1)))))) hs24 ?_
        refine .ld (d := 25) (v := (.int .i64 ((r_1.drop (Int.toNat (IntKind.i64.wrap ((k_9 : Int) + 1)))).length : Int))) hs25 ?_
        refine .ld (d := 26) (v := (.int .i64 (k_23 : Int))) hs26 ?_
        refine .ld (d := 5) (v := (.slice a_36 l_35.length cap_37)) hs5 ?_
        refine .ld (d := 6) (v := (.slice ra_3 r_1.length rc_4)) hs6 ?_
        refine .ld (d := 8) (v := (.int .i64 x_17)) hs8 ?_
        refine .ld (d := 1000000) (v := (enc [])) hs1000000 ?_
        clear hs0 hs14 hs15 hs16 hs24 hs25 hs26 hs5 hs6 hs8 hs1000000
        refine wregion ?_
        refine lv (v := (.int .i64 (IntKind.i64.wrap ((k_23 : Int) + 1)))) rfl rfl (r_add (k_23 : Int) 1 rfl rfl) ?_
        refine lv (v := (.int .i64 (IntKind.i64.wrap ((k_23 : Int) + 1)))) rfl rfl (r_move rfl) ?_
        refine lnil ?_
        exact ⟨l_32.length, by simp, ⟨col_34, (k_23 + 1), a_36, cap_37, l_35, l_32, rfl, hl2, hm, hst, h0, rh_5, h_22, h_38, (congrArg (Value.int .i64) (wrap_succ (Nat.lt_of_lt_of_le hlt h_22.1.1))), rfl, rfl, rfl, rfl, rfl, rfl, rfl, rfl, rfl, rfl⟩⟩
      · refine wblock ?_
        refine wseq ?_
        refine wregion ?_
        refine lv (v := (sptr a_20 (Int.toNat (k_23 : Int) * 1))) rfl rfl (r_idx Try.underlying22 Try.sizeOf3 rfl rfl (at?_some hat).1 (at?_some hat).2.1 (h_22.addr hat)) ?_
        refine lv (v := (.int .i64 x_31)) rfl rfl (r_ld Try.isAgg3 rfl (h_22.atInt hat)) ?_
        refine lv (v := (.int .i64 x_31)) rfl rfl (r_assign rfl) ?_
        refine lnil ?_
        refine wseq ?_
        refine wregion ?_
        refine lv (v := (.pointer (some ⟨o0.g, 0, none⟩))) rfl rfl (r_move rfl) ?_
        refine lv (v := (.pointer (some ⟨o0.g, 0, none⟩))) rfl rfl (r_nilCheck rfl) ?_
        refine lv (v := (.pointer ((some (⟨o0.g, 0, none⟩ : Addr)).map (·.add 0)))) rfl rfl (r_fieldAddr (sz := 1) (off := 0) Try.underlying85 rfl Try.sizeOf83 (by decide) rfl rfl ⟨_, _, rfl⟩) ?_
        refine lv (v := (.slice o0.a p0_g.length o0.cap)) rfl rfl (r_ld Try.isAgg83 rfl ((h0.box.atN).nth (q := 0) (v := (.slice o0.a p0_g.length o0.cap)) rfl)) ?_
        refine lv (v := (.int .i64 x_17)) rfl rfl (r_move rfl) ?_
        obtain ⟨row_39, hj_40, hm⟩ := bind_some hm
        obtain ⟨b_41, hb_42, _, hb_43⟩ := h0.blk hj_40
        refine lv (v := (sptr o0.a (Int.toNat x_17 * 1))) rfl rfl (r_idx Try.underlying83 Try.sizeOf86 rfl rfl (at?_some hj_40).1 (at?_some hj_40).2.1 (h0.addr hb_42)) ?_
        refine lv (v := (.map (some b_41))) rfl rfl (r_ld Try.isAgg86 rfl (h0.at1 hb_42)) ?_
        refine lv (v := (.int .i64 x_31)) rfl rfl (r_move rfl) ?_
        refine lv (v := (.bool (gat row_39 x_31))) rfl rfl (r_glookup_g (h0.maps _ _ _ hb_43 (at?_some hj_40).2.2) Try.underlying86 Try.underlying3 Try.zeroValue4 rfl rfl) ?_
        refine lv (v := (.bool (!(gat row_39 x_31)))) rfl rfl (r_not (gat row_39 x_31) rfl) ?_
        refine lnil ?_
        refine wcond (!(gat row_39 x_31)) rfl (fun hb => ?_) (fun hb => ?_)
        · rw [if_pos hb] at hm
          clear hb
          refine wregion ?_
          refine lv (v := (.slice a_28 l_27.length cap_29)) rfl rfl (r_move rfl) ?_
          refine lv (v := (.int .i64 x_17)) rfl rfl (r_move rfl) ?_
          refine lv (v := (.int .i64 x_31)) rfl rfl (r_move rfl) ?_
          refine lv (v := (.agg #[(.int .i64 x_17), (.int .i64 x_31)])) rfl rfl (r_build (l := [_, _]) (qs := [(0, 1), (1, 1)]) Try.underlying47 Try.zeroValue47 ⟨rfl, Try.sizeOf3, rfl, Try.sizeOf3, trivial⟩ rfl) ?_
          refine l_lit (col := col_26) (r := (Rep.pair (Rep.int .i64) (Rep.int .i64))) (xs := [(x_17, x_31)]) [(.agg #[(.int .i64 x_17), (.int .i64 x_31)])] 3 rfl Try.underlying29 el47_53 rfl rfl rfl rfl rfl rfl (by intro v hv; simp only [List.mem_cons, List.not_mem_nil, or_false] at hv; subst hv; rfl) (RowsH.ofF (Rows.consF (r := (Rep.pair (Rep.int .i64) (Rep.int .i64))) (x := (x_17, x_31)) (cs := [(.int .i64 x_17), (.int .i64 x_31)]) (rd_pairI (rd_int .i64 x_17) (rd_int .i64 x_31)) Rows.nil0)) ?_
          intro a_44 w_45 col_46 hg_47 h_48
          replace h0 := h0.gr hg_47
          replace rh_5 := rh_5.gr hg_47
          replace h_22 := h_22.gr hg_47
          replace h_30 := h_30.gr hg_47
          replace hst := hst.grow hg_47
          obtain ⟨hb_49, hm⟩ := chk_some hm
          refine l_appendM (col := col_46) (w := w_45) (r := (Rep.pair (Rep.int .i64) (Rep.int .i64))) (c := 2) (c2 := 2) (xs := l_27) (ys := [(x_17, x_31)]) h_30 (h_48.srcN (NB.pair (NB.int (k := .i64)) (NB.int (k := .i64)))) rfl Try.underlying29 el47_53 rfl rfl rfl hb_49.1 hb_49.2 (by decide) ?_
          intro a_50 cap_51 w_52 col_53 hk_54 h_55
          replace h0 := h0.kpp hk_54 rfl rfl
          replace rh_5 := rh_5.kpp hk_54 rfl
          replace h_22 := h_22.kpp hk_54 rfl
          replace h_48 := h_48.kpp hk_54 rfl rfl
          replace hst := hst.kpp hk_54 rfl rfl
          clear h_30
          refine lv (v := (.slice a_50 ((l_27 ++ [(x_17, x_31)]).length) cap_51)) rfl rfl (r_assign rfl) ?_
          refine lnil ?_
          exact ⟨col_53, a_50, cap_51, (l_27 ++ [(x_17, x_31)]), hm, hst, h0, rh_5, h_22, h_55, rfl, rfl, rfl, rfl, rfl, rfl, rfl, rfl, rfl, rfl, rfl⟩
        · rw [if_neg (by rw [hb]; decide)] at hm
          clear hb
          refine wskip ?_
          exact ⟨col_26, a_28, cap_29, l_27, hm, hst, h0, rh_5, h_22, h_30, rfl, rfl, rfl, rfl, rfl, rfl, rfl, rfl, rfl, rfl, rfl⟩




def m_graph_Graph_Fill (p0_g : List (List Bool)) (p1_a : Int) : Option Int :=
  (m_graph_Graph_wanting p0_g p1_a).bind fun r_1 => some (r_1.length : Int)

set_option maxRecDepth 100000 in
set_option maxHeartbeats 2000000 in
theorem c_graph_Graph_Fill (col : Col) (w0 : World) (qc0 : Nat) (hqqc0 : qc0 ≠ 0) (o0 : GObj) (p0_g : List (List Bool)) (p1_a : Int) (h0 : GO 85 86 qc0 col w0 o0 p0_g) (r : Int) (hm : m_graph_Graph_Fill p0_g p1_a = some r) :
    Calls Try.prog 16 #[(.pointer (some ⟨o0.g, 0, none⟩)), (.int .i64 p1_a)] w0 (fun e w' => e = .returned ((.int .i64 r)) ∧ Below w0.heap.size w0 w') := by
  refine calls_of1 4 (m := 9) (args := [(.pointer (some ⟨o0.g, 0, none⟩)), (.int .i64 p1_a)]) Try.func16 rfl rfl rfl rfl rfl ?_
  rw [m_graph_Graph_Fill.eq_1] at hm
  have hst := St.start col w0
  replace h0 := h0.start0 hqqc0
  refine wseq ?_
  refine wregion ?_
  refine lv (v := (.int .i64 0)) rfl rfl (r_assign rfl) ?_
  refine lnil ?_
  refine wseq ?_
  refine wregion ?_
  refine lv (v := (.pointer (some ⟨o0.g, 0, none⟩))) rfl rfl (r_move rfl) ?_
  refine lv (v := (.int .i64 p1_a)) rfl rfl (r_move rfl) ?_
  obtain ⟨r_1, hr_2, hm⟩ := bind_some hm
  refine lc rfl rfl (r_call2 Try.call53 rfl rfl) (c_graph_Graph_wanting 1 (col0 col) _ 999 (by decide) o0 p0_g p1_a h0 r_1 hr_2) ?_
  rintro _ w_6 ⟨col_8, ra_3, rc_4, rfl, hg_7, rh_5⟩
  refine ⟨_, rfl, ?_⟩
  replace h0 := h0.gr hg_7
  replace hst := hst.grow hg_7
  refine lv (v := (.int .i64 (r_1.length : Int))) rfl rfl (r_len Try.underlying29 rfl) ?_
  refine lv (v := (.int .i64 (r_1.length : Int))) rfl rfl (r_assign rfl) ?_
  refine lnil ?_
  refine wret ?_
  cases hm
  exact ⟨rfl, rfl, hst.below⟩




def m_cmp_isNaN_int (p0_x : Int) : Option Bool :=
  some (!decide (p0_x = p0_x))

set_option maxRecDepth 100000 in
set_option maxHeartbeats 2000000 in
theorem c_cmp_isNaN_int (col : Col) (w0 : World) (p0_x : Int) (r : Bool) (hm : m_cmp_isNaN_int p0_x = some r) :
    Calls Try.prog 111 #[(.int .i64 p0_x)] w0 (fun e w' => e = .returned ((.bool r)) ∧ Below w0.heap.size w0 w') := by
  refine calls_of1 2 (m := 6) (args := [(.int .i64 p0_x)]) Try.func111 rfl rfl rfl rfl rfl ?_
  rw [m_cmp_isNaN_int.eq_1] at hm
  have hst := St.start col w0
  refine wseq ?_
  refine wregion ?_
  refine lv (v := (.bool false)) rfl rfl (r_assign rfl) ?_
  refine lnil ?_
  refine wseq ?_
  refine wregion ?_
  refine lv (v := (.int .i64 p0_x)) rfl rfl (r_move rfl) ?_
  refine lv (v := (.int .i64 p0_x)) rfl rfl (r_move rfl) ?_
  refine lv (v := (.bool (!decide (p0_x = p0_x)))) rfl rfl (r_neq p0_x p0_x rfl rfl) ?_
  refine lv (v := (.bool (!decide (p0_x = p0_x)))) rfl rfl (r_assign rfl) ?_
  refine lnil ?_
  refine wret ?_
  cases hm
  exact ⟨rfl, rfl, hst.below⟩




def m_cmp_Less_int_J1 (v_13 : Bool) : Option Bool :=
  some v_13

def m_cmp_Less_int (p0_x : Int) (p1_y : Int) : Option Bool :=
  (m_cmp_isNaN_int p0_x).bind fun r_14 => if r_14 = true then ((m_cmp_isNaN_int p1_y).bind fun r_19 => if (!r_19) = true then (m_cmp_Less_int_J1 true) else (m_cmp_Less_int_J1 (decide (p0_x < p1_y)))) else (m_cmp_Less_int_J1 (decide (p0_x < p1_y)))

set_option maxRecDepth 100000 in
set_option maxHeartbeats 2000000 in
theorem c_cmp_Less_int (col : Col) (w0 : World) (p0_x : Int) (p1_y : Int) (r : Bool) (hm : m_cmp_Less_int p0_x p1_y = some r) :
    Calls Try.prog 88 #[(.int .i64 p0_x), (.int .i64 p1_y)] w0 (fun e w' => e = .returned ((.bool r)) ∧ Below w0.heap.size w0 w') := by
  refine calls_of1 4 (m := 17) (args := [(.int .i64 p0_x), (.int .i64 p1_y)]) Try.func88 rfl rfl rfl rfl rfl ?_
  rw [m_cmp_Less_int.eq_1] at hm
  have hst := St.start col w0
  refine wseq ?_
  refine wregion ?_
  refine lv (v := (.bool false)) rfl rfl (r_assign rfl) ?_
  refine lnil ?_
  refine wseq ?_
  refine Wp.cut (fun f w_11 => ∃ (col_12 : Col) (v_13 : Bool), m_cmp_Less_int_J1 v_13 = some r ∧ St w0 (col0 col) col_12 w_11 ∧ f 4 = (.bool v_13) ∧ f 1000000 = (enc [])) ?_ ?_
  · intro f w_11 hJ
    obtain ⟨col_12, v_13, hm, hst, hs4, hs1000000⟩ := hJ
    rw [m_cmp_Less_int_J1.eq_1] at hm
    refine .ld (d := 4) (v := (.bool v_13)) hs4 ?_
    refine .ld (d := 1000000) (v := (enc [])) hs1000000 ?_
    clear hs4 hs1000000
    refine wret ?_
    cases hm
    exact ⟨rfl, rfl, hst.below⟩
  · refine wregion ?_
    refine lv (v := (.int .i64 p0_x)) rfl rfl (r_move rfl) ?_
    obtain ⟨r_14, hr_15, hm⟩ := bind_some hm
    refine lc rfl rfl (r_call1 Try.call111 rfl) (c_cmp_isNaN_int (col0 col) _ p0_x r_14 hr_15) ?_
    rintro _ w_16 ⟨rfl, hg_17⟩
    refine ⟨_, rfl, ?_⟩
    replace hg_17 : Grow (col0 col) w0 (col0 col) w_16 := .of_below hg_17
    replace hst := hst.grow hg_17
    refine lv (v := (.bool r_14)) rfl rfl (r_move rfl) ?_
    by_cases hg_18 : r_14 = true
    · rw [if_pos hg_18] at hm
      refine lg (b := r_14) 7 rfl rfl rfl (by rw [hg_18]; rfl) ?_
      refine lv (v := (.int .i64 p1_y)) rfl rfl (r_move rfl) ?_
      refine lg (b := r_14) 7 rfl rfl rfl (by rw [hg_18]; rfl) ?_
      obtain ⟨r_19, hr_20, hm⟩ := bind_some hm
      refine lc rfl rfl (r_call1 Try.call111 rfl) (c_cmp_isNaN_int (col0 col) _ p1_y r_19 hr_20) ?_
      rintro _ w_21 ⟨rfl, hg_22⟩
      refine ⟨_, rfl, ?_⟩
      replace hg_22 : Grow (col0 col) w_16 (col0 col) w_21 := .of_below hg_22
      replace hst := hst.grow hg_22
      refine lg (b := r_14) 7 rfl rfl rfl (by rw [hg_18]; rfl) ?_
      refine lv (v := (.bool (!r_19))) rfl rfl (r_not r_19 rfl) ?_
      refine lv (v := (.bool (!r_19))) rfl rfl (r_pickT (congrArg Value.bool hg_18) rfl) ?_
      refine lv (v := (.bool (!r_19))) rfl rfl (r_move rfl) ?_
      by_cases hg_23 : (!r_19) = true
      · rw [if_pos hg_23] at hm
        refine lp (b := !r_19) 12 rfl rfl rfl rfl (by rw [hg_23]; rfl) ?_
        refine lp (b := !r_19) 12 rfl rfl rfl rfl (by rw [hg_23]; rfl) ?_
        refine lp (b := !r_19) 12 rfl rfl rfl rfl (by rw [hg_23]; rfl) ?_
        refine lv (v := (.bool true)) rfl rfl (r_pickT (congrArg Value.bool hg_23) rfl) ?_
        refine lv (v := (.bool true)) rfl rfl (r_assign rfl) ?_
        refine lnil ?_
        exact ⟨(col0 col), true, hm, hst, rfl, rfl⟩
      · rw [if_neg hg_23] at hm
        replace hg_23 := Bool.eq_false_iff.2 hg_23
        refine lg (b := !r_19) 12 rfl rfl rfl (by rw [hg_23]; rfl) ?_
        refine lv (v := (.int .i64 p0_x)) rfl rfl (r_move rfl) ?_
        refine lg (b := !r_19) 12 rfl rfl rfl (by rw [hg_23]; rfl) ?_
        refine lv (v := (.int .i64 p1_y)) rfl rfl (r_move rfl) ?_
        refine lg (b := !r_19) 12 rfl rfl rfl (by rw [hg_23]; rfl) ?_
        refine lv (v := (.bool (decide (p0_x < p1_y)))) rfl rfl (r_lss p0_x p1_y rfl rfl) ?_
        refine lv (v := (.bool (decide (p0_x < p1_y)))) rfl rfl (r_pickF (congrArg Value.bool hg_23) rfl) ?_
        refine lv (v := (.bool (decide (p0_x < p1_y)))) rfl rfl (r_assign rfl) ?_
        refine lnil ?_
        exact ⟨(col0 col), (decide (p0_x < p1_y)), hm, hst, rfl, rfl⟩
    · rw [if_neg hg_18] at hm
      replace hg_18 := Bool.eq_false_iff.2 hg_18
      refine lp (b := r_14) 7 rfl rfl rfl rfl (by rw [hg_18]; rfl) ?_
      refine lp (b := r_14) 7 rfl rfl rfl rfl (by rw [hg_18]; rfl) ?_
      refine lp (b := r_14) 7 rfl rfl rfl rfl (by rw [hg_18]; rfl) ?_
      refine lv (v := (.bool false)) rfl rfl (r_pickF (congrArg Value.bool hg_18) rfl) ?_
      refine lv (v := (.bool false)) rfl rfl (r_move rfl) ?_
      refine lg (b := false) 12 rfl rfl rfl rfl ?_
      refine lv (v := (.int .i64 p0_x)) rfl rfl (r_move rfl) ?_
      refine lg (b := false) 12 rfl rfl rfl rfl ?_
      refine lv (v := (.int .i64 p1_y)) rfl rfl (r_move rfl) ?_
      refine lg (b := false) 12 rfl rfl rfl rfl ?_
      refine lv (v := (.bool (decide (p0_x < p1_y)))) rfl rfl (r_lss p0_x p1_y rfl rfl) ?_
      refine lv (v := (.bool (decide (p0_x < p1_y)))) rfl rfl (r_pickF rfl rfl) ?_
      refine lv (v := (.bool (decide (p0_x < p1_y)))) rfl rfl (r_assign rfl) ?_
      refine lnil ?_
      exact ⟨(col0 col), (decide (p0_x < p1_y)), hm, hst, rfl, rfl⟩




def m_slices_isNaN_int (p0_x : Int) : Option Bool :=
  some (!decide (p0_x = p0_x))

set_option maxRecDepth 100000 in
set_option maxHeartbeats 2000000 in
theorem c_slices_isNaN_int (col : Col) (w0 : World) (p0_x : Int) (r : Bool) (hm : m_slices_isNaN_int p0_x = some r) :
    Calls Try.prog 89 #[(.int .i64 p0_x)] w0 (fun e w' => e = .returned ((.bool r)) ∧ Below w0.heap.size w0 w') := by
  refine calls_of1 2 (m := 6) (args := [(.int .i64 p0_x)]) Try.func89 rfl rfl rfl rfl rfl ?_
  rw [m_slices_isNaN_int.eq_1] at hm
  have hst := St.start col w0
  refine wseq ?_
  refine wregion ?_
  refine lv (v := (.bool false)) rfl rfl (r_assign rfl) ?_
  refine lnil ?_
  refine wseq ?_
  refine wregion ?_
  refine lv (v := (.int .i64 p0_x)) rfl rfl (r_move rfl) ?_
  refine lv (v := (.int .i64 p0_x)) rfl rfl (r_move rfl) ?_
  refine lv (v := (.bool (!decide (p0_x = p0_x)))) rfl rfl (r_neq p0_x p0_x rfl rfl) ?_
  refine lv (v := (.bool (!decide (p0_x = p0_x)))) rfl rfl (r_assign rfl) ?_
  refine lnil ?_
  refine wret ?_
  cases hm
  exact ⟨rfl, rfl, hst.below⟩




def m_slices_BinarySearch_int_int_J1 (v_27 : Int) (v_28 : Bool) : Option (Int × Bool) :=
  some (v_27, v_28)

def m_slices_BinarySearch_int_int_L1 (N : Nat) (p0_x : (List Int)) (p1_target : Int) : Nat → Int → Int → Option (Int × Bool)
  | 0, _, _ => none
  | n_1 + 1, i_4, j_5 => if (decide (i_4 < j_5)) = true then ((at? p0_x (IntKind.i64.wrap (ishr .u64 (IntKind.u64.wrap (IntKind.i64.wrap (i_4 + j_5))) 1))).bind fun e_6 => (m_cmp_Less_int e_6 p1_target).bind fun r_8 => if r_8 = true then ((m_slices_BinarySearch_int_int_L1 N p0_x p1_target n_1) (IntKind.i64.wrap ((IntKind.i64.wrap (ishr .u64 (IntKind.u64.wrap (IntKind.i64.wrap (i_4 + j_5))) 1)) + 1)) j_5) else ((m_slices_BinarySearch_int_int_L1 N p0_x p1_target n_1) i_4 (IntKind.i64.wrap (ishr .u64 (IntKind.u64.wrap (IntKind.i64.wrap (i_4 + j_5))) 1)))) else (if (decide (i_4 < (p0_x.length : Int))) = true then ((at? p0_x i_4).bind fun e_30 => if (decide (e_30 = p1_target)) = true then (m_slices_BinarySearch_int_int_J1 i_4 true) else ((m_slices_isNaN_int e_30).bind fun r_33 => if r_33 = true then ((m_slices_isNaN_int p1_target).bind fun r_38 => m_slices_BinarySearch_int_int_J1 i_4 r_38) else (m_slices_BinarySearch_int_int_J1 i_4 false))) else (m_slices_BinarySearch_int_int_J1 i_4 false))

def m_slices_BinarySearch_int_int (N : Nat) (p0_x : (List Int)) (p1_target : Int) : Option (Int × Bool) :=
  m_slices_BinarySearch_int_int_L1 N p0_x p1_target N 0 (p0_x.length : Int)

set_option maxRecDepth 100000 in
set_option maxHeartbeats 2000000 in
theorem c_slices_BinarySearch_int_int (N : Nat) (col : Col) (w0 : World) (a0 : Option Addr) (cap0 : Nat) (p0_x : (List Int)) (p1_target : Int) (h0 : Sl (Rep.int .i64) col w0 a0 cap0 p0_x) (r : (Int × Bool)) (hm : m_slices_BinarySearch_int_int N p0_x p1_target = some r) :
    Calls Try.prog 57 #[(.slice a0 p0_x.length cap0), (.int .i64 p1_target)] w0 (fun e w' => e = .returned (.tuple #[(.int .i64 r.1), (.bool r.2)]) ∧ Below w0.heap.size w0 w') := by
  refine calls_of2 4 5 (m := 54) (args := [(.slice a0 p0_x.length cap0), (.int .i64 p1_target)]) Try.func57 rfl rfl rfl rfl rfl ?_
  rw [m_slices_BinarySearch_int_int.eq_1] at hm
  have hst := St.start col w0
  replace h0 := h0.keep (Stay.start col w0)
  refine wseq ?_
  refine wregion ?_
  refine lv (v := (.int .i64 0)) rfl rfl (r_assign rfl) ?_
  refine lv (v := (.bool false)) rfl rfl (r_assign rfl) ?_
  refine lnil ?_
  refine wseq ?_
  refine wregion ?_
  refine lv (v := (.slice a0 p0_x.length cap0)) rfl rfl (r_move rfl) ?_
  refine lv (v := (.int .i64 (p0_x.length : Int))) rfl rfl (r_len Try.underlying22 rfl) ?_
  refine lv (v := (.int .i64 (p0_x.length : Int))) rfl rfl (r_assign rfl) ?_
  refine lnil ?_
  refine wseq ?_
  refine wregion ?_
  refine lv (v := (.int .i64 (p0_x.length : Int))) rfl rfl (r_move rfl) ?_
  refine lv (v := (.int .i64 0)) rfl rfl (r_assign rfl) ?_
  refine lv (v := (.int .i64 (p0_x.length : Int))) rfl rfl (r_assign rfl) ?_
  refine lnil ?_
  refine wseq ?_
  refine wblock ?_
  refine wloop (fun n f w_2 => ∃ (col_3 : Col) (i_4 : Int) (j_5 : Int) (n_1 : Nat), n_1 = n ∧ m_slices_BinarySearch_int_int_L1 N p0_x p1_target n_1 i_4 j_5 = some r ∧ St w0 (col0 col) col_3 w_2 ∧ Sl (Rep.int .i64) col_3 w_2 a0 cap0 p0_x ∧ f 0 = (.slice a0 p0_x.length cap0) ∧ f 1 = (.int .i64 p1_target) ∧ f 6 = (.int .i64 (p0_x.length : Int)) ∧ f 7 = (.int .i64 i_4) ∧ f 8 = (.int .i64 j_5) ∧ f 1000000 = (enc [])) N ⟨(col0 col), 0, (p0_x.length : Int), N, rfl, hm, hst, h0, rfl, rfl, rfl, rfl, rfl, rfl⟩ ?_
  clear hm; intro n f w_2 hI
  obtain ⟨col_3, i_4, j_5, n_1, hn, hm, hst, h0, hs0, hs1, hs6, hs7, hs8, hs1000000⟩ := hI
  subst hn
  refine .ld (d := 0) (v := (.slice a0 p0_x.length cap0)) hs0 ?_
  refine .ld (d := 1) (v := (.int .i64 p1_target)) hs1 ?_
  refine .ld (d := 6) (v := (.int .i64 (p0_x.length : Int))) hs6 ?_
  refine .ld (d := 7) (v := (.int .i64 i_4)) hs7 ?_
  refine .ld (d := 8) (v := (.int .i64 j_5)) hs8 ?_
  refine .ld (d := 1000000) (v := (enc [])) hs1000000 ?_
  clear hs0 hs1 hs6 hs7 hs8 hs1000000
  cases n_1 with
  | zero => rw [m_slices_BinarySearch_int_int_L1.eq_1] at hm; cases hm
  | succ n_1 =>
    rw [m_slices_BinarySearch_int_int_L1.eq_2] at hm
    refine wseq ?_
    refine wseq ?_
    refine wregion ?_
    refine lv (v := (.int .i64 i_4)) rfl rfl (r_move rfl) ?_
    refine lv (v := (.int .i64 j_5)) rfl rfl (r_move rfl) ?_
    refine lv (v := (.bool (decide (i_4 < j_5)))) rfl rfl (r_lss i_4 j_5 rfl rfl) ?_
    refine lnil ?_
    refine wcond (decide (i_4 < j_5)) rfl (fun hb => ?_) (fun hb => ?_)
    · rw [if_pos hb] at hm
      clear hb
      refine wskip ?_
      refine wblock ?_
      refine wseq ?_
      refine wregion ?_
      refine lv (v := (.int .i64 i_4)) rfl rfl (r_move rfl) ?_
      refine lv (v := (.int .i64 j_5)) rfl rfl (r_move rfl) ?_
      refine lv (v := (.int .i64 (IntKind.i64.wrap (i_4 + j_5)))) rfl rfl (r_add i_4 j_5 rfl rfl) ?_
      refine lv (v := (.int .u64 (IntKind.u64.wrap (IntKind.i64.wrap (i_4 + j_5))))) rfl rfl (r_conv (IntKind.i64.wrap (i_4 + j_5)) ⟨_, Try.underlying3⟩ Try.underlying122 rfl) ?_
      refine lv (v := (.int .u64 (ishr .u64 (IntKind.u64.wrap (IntKind.i64.wrap (i_4 + j_5))) 1))) rfl rfl (r_shr (IntKind.u64.wrap (IntKind.i64.wrap (i_4 + j_5))) 1 rfl rfl (by decide)) ?_
      refine lv (v := (.int .i64 (IntKind.i64.wrap (ishr .u64 (IntKind.u64.wrap (IntKind.i64.wrap (i_4 + j_5))) 1)))) rfl rfl (r_conv (ishr .u64 (IntKind.u64.wrap (IntKind.i64.wrap (i_4 + j_5))) 1) ⟨_, Try.underlying122⟩ Try.underlying3 rfl) ?_
      refine lv (v := (.int .i64 (IntKind.i64.wrap (ishr .u64 (IntKind.u64.wrap (IntKind.i64.wrap (i_4 + j_5))) 1)))) rfl rfl (r_assign rfl) ?_
      refine lnil ?_
      refine wseq ?_
      refine wregion ?_
      refine lv (v := (.slice a0 p0_x.length cap0)) rfl rfl (r_move rfl) ?_
      refine lv (v := (.int .i64 (IntKind.i64.wrap (ishr .u64 (IntKind.u64.wrap (IntKind.i64.wrap (i_4 + j_5))) 1)))) rfl rfl (r_move rfl) ?_
      obtain ⟨e_6, hj_7, hm⟩ := bind_some hm
      refine lv (v := (sptr a0 (Int.toNat (IntKind.i64.wrap (ishr .u64 (IntKind.u64.wrap (IntKind.i64.wrap (i_4 + j_5))) 1)) * 1))) rfl rfl (r_idx Try.underlying22 Try.sizeOf3 rfl rfl (at?_some hj_7).1 (at?_some hj_7).2.1 (h0.addr hj_7)) ?_
      refine lv (v := (.int .i64 e_6)) rfl rfl (r_ld Try.isAgg3 rfl (h0.atInt hj_7)) ?_
      refine lv (v := (.int .i64 p1_target)) rfl rfl (r_move rfl) ?_
      obtain ⟨r_8, hr_9, hm⟩ := bind_some hm
      refine lc rfl rfl (r_call2 Try.call88 rfl rfl) (c_cmp_Less_int col_3 _ e_6 p1_target r_8 hr_9) ?_
      rintro _ w_10 ⟨rfl, hg_11⟩
      refine ⟨_, rfl, ?_⟩
      replace hg_11 : Grow col_3 w_2 col_3 w_10 := .of_below hg_11
      replace h0 := h0.gr hg_11
      replace hst := hst.grow hg_11
      refine lnil ?_
      refine wcond (r_8) rfl (fun hb => ?_) (fun hb => ?_)
      · rw [if_pos hb] at hm
        clear hb
        refine wregion ?_
        refine lv (v := (.int .i64 (IntKind.i64.wrap (ishr .u64 (IntKind.u64.wrap (IntKind.i64.wrap (i_4 + j_5))) 1)))) rfl rfl (r_move rfl) ?_
        refine lv (v := (.int .i64 (IntKind.i64.wrap ((IntKind.i64.wrap (ishr .u64 (IntKind.u64.wrap (IntKind.i64.wrap (i_4 + j_5))) 1)) + 1)))) rfl rfl (r_add (IntKind.i64.wrap (ishr .u64 (IntKind.u64.wrap (IntKind.i64.wrap (i_4 + j_5))) 1)) 1 rfl rfl) ?_
        refine lv (v := (.int .i64 (IntKind.i64.wrap ((IntKind.i64.wrap (ishr .u64 (IntKind.u64.wrap (IntKind.i64.wrap (i_4 + j_5))) 1)) + 1)))) rfl rfl (r_assign rfl) ?_
        refine lnil ?_
        exact ⟨n_1, by omega, ⟨col_3, (IntKind.i64.wrap ((IntKind.i64.wrap (ishr .u64 (IntKind.u64.wrap (IntKind.i64.wrap (i_4 + j_5))) 1)) + 1)), j_5, n_1, rfl, hm, hst, h0, rfl, rfl, rfl, rfl, rfl, rfl⟩⟩
      · rw [if_neg (by rw [hb]; decide)] at hm
        clear hb
        refine wregion ?_
        refine lv (v := (.int .i64 (IntKind.i64.wrap (ishr .u64 (IntKind.u64.wrap (IntKind.i64.wrap (i_4 + j_5))) 1)))) rfl rfl (r_move rfl) ?_
        refine lv (v := (.int .i64 (IntKind.i64.wrap (ishr .u64 (IntKind.u64.wrap (IntKind.i64.wrap (i_4 + j_5))) 1)))) rfl rfl (r_assign rfl) ?_
        refine lnil ?_
        exact ⟨n_1, by omega, ⟨col_3, i_4, (IntKind.i64.wrap (ishr .u64 (IntKind.u64.wrap (IntKind.i64.wrap (i_4 + j_5))) 1)), n_1, rfl, hm, hst, h0, rfl, rfl, rfl, rfl, rfl, rfl⟩⟩
    · rw [if_neg (by rw [hb]; decide)] at hm
      clear hb
      refine wexit (inB_hit ?_)
      refine wseq ?_
      refine Wp.cut (fun f w_25 => ∃ (col_26 : Col) (v_27 : Int) (v_28 : Bool), m_slices_BinarySearch_int_int_J1 v_27 v_28 = some r ∧ St w0 (col0 col) col_26 w_25 ∧ f 4 = (.int .i64 v_27) ∧ f 5 = (.bool v_28) ∧ f 1000000 = (enc [])) ?_ ?_
      · intro f w_25 hJ
        obtain ⟨col_26, v_27, v_28, hm, hst, hs4, hs5, hs1000000⟩ := hJ
        rw [m_slices_BinarySearch_int_int_J1.eq_1] at hm
        refine .ld (d := 4) (v := (.int .i64 v_27)) hs4 ?_
        refine .ld (d := 5) (v := (.bool v_28)) hs5 ?_
        refine .ld (d := 1000000) (v := (enc [])) hs1000000 ?_
        clear hs4 hs5 hs1000000
        refine wret ?_
        cases hm
        exact ⟨rfl, rfl, hst.below⟩
      · refine wregion ?_
        refine lv (v := (.int .i64 i_4)) rfl rfl (r_move rfl) ?_
        refine lv (v := (.int .i64 i_4)) rfl rfl (r_move rfl) ?_
        refine lv (v := (.int .i64 (p0_x.length : Int))) rfl rfl (r_move rfl) ?_
        refine lv (v := (.bool (decide (i_4 < (p0_x.length : Int))))) rfl rfl (r_lss i_4 (p0_x.length : Int) rfl rfl) ?_
        refine lv (v := (.bool (decide (i_4 < (p0_x.length : Int))))) rfl rfl (r_move rfl) ?_
        by_cases hg_29 : (decide (i_4 < (p0_x.length : Int))) = true
        · rw [if_pos hg_29] at hm
          refine lg (b := decide (i_4 < (p0_x.length : Int))) 35 rfl rfl rfl (by rw [hg_29]; rfl) ?_
          refine lv (v := (.slice a0 p0_x.length cap0)) rfl rfl (r_move rfl) ?_
          refine lg (b := decide (i_4 < (p0_x.length : Int))) 35 rfl rfl rfl (by rw [hg_29]; rfl) ?_
          refine lv (v := (.int .i64 i_4)) rfl rfl (r_move rfl) ?_
          refine lg (b := decide (i_4 < (p0_x.length : Int))) 35 rfl rfl rfl (by rw [hg_29]; rfl) ?_
          obtain ⟨e_30, hj_31, hm⟩ := bind_some hm
          refine lv (v := (sptr a0 (Int.toNat i_4 * 1))) rfl rfl (r_idx Try.underlying22 Try.sizeOf3 rfl rfl (at?_some hj_31).1 (at?_some hj_31).2.1 (h0.addr hj_31)) ?_
          refine lg (b := decide (i_4 < (p0_x.length : Int))) 35 rfl rfl rfl (by rw [hg_29]; rfl) ?_
          refine lv (v := (.int .i64 e_30)) rfl rfl (r_ld Try.isAgg3 rfl (h0.atInt hj_31)) ?_
          refine lg (b := decide (i_4 < (p0_x.length : Int))) 35 rfl rfl rfl (by rw [hg_29]; rfl) ?_
          refine lv (v := (.int .i64 p1_target)) rfl rfl (r_move rfl) ?_
          refine lg (b := decide (i_4 < (p0_x.length : Int))) 35 rfl rfl rfl (by rw [hg_29]; rfl) ?_
          refine lv (v := (.bool (decide (e_30 = p1_target)))) rfl rfl (r_eql e_30 p1_target rfl rfl) ?_
          refine lg (b := decide (i_4 < (p0_x.length : Int))) 35 rfl rfl rfl (by rw [hg_29]; rfl) ?_
          refine lv (v := (.bool (decide (e_30 = p1_target)))) rfl rfl (r_move rfl) ?_
          by_cases hg_32 : (decide (e_30 = p1_target)) = true
          · rw [if_pos hg_32] at hm
            refine lp (b := decide (e_30 = p1_target)) 42 rfl rfl rfl rfl (by rw [hg_32]; rfl) ?_
            refine lp (b := decide (e_30 = p1_target)) 42 rfl rfl rfl rfl (by rw [hg_32]; rfl) ?_
            refine lp (b := decide (e_30 = p1_target)) 42 rfl rfl rfl rfl (by rw [hg_32]; rfl) ?_
            refine lp (b := decide (e_30 = p1_target)) 42 rfl rfl rfl rfl (by rw [hg_32]; rfl) ?_
            refine lp (b := decide (e_30 = p1_target)) 42 rfl rfl rfl rfl (by rw [hg_32]; rfl) ?_
            refine lp (b := decide (e_30 = p1_target)) 42 rfl rfl rfl rfl (by rw [hg_32]; rfl) ?_
            refine lpU 48 rfl rfl rfl rfl ?_
            refine lpU 48 rfl rfl rfl rfl ?_
            refine lp (b := decide (e_30 = p1_target)) 42 rfl rfl rfl rfl (by rw [hg_32]; rfl) ?_
            refine lg (b := decide (i_4 < (p0_x.length : Int))) 35 rfl rfl rfl (by rw [hg_29]; rfl) ?_
            refine lv (v := (.bool true)) rfl rfl (r_pickT (congrArg Value.bool hg_32) rfl) ?_
            refine lv (v := (.bool true)) rfl rfl (r_pickT (congrArg Value.bool hg_29) rfl) ?_
            refine lv (v := (.int .i64 i_4)) rfl rfl (r_assign rfl) ?_
            refine lv (v := (.bool true)) rfl rfl (r_assign rfl) ?_
            refine lnil ?_
            exact ⟨col_3, i_4, true, hm, hst, rfl, rfl, rfl⟩
          · rw [if_neg hg_32] at hm
            replace hg_32 := Bool.eq_false_iff.2 hg_32
            refine lg (b := decide (e_30 = p1_target)) 42 rfl rfl rfl (by rw [hg_32]; rfl) ?_
            refine lv (v := (.slice a0 p0_x.length cap0)) rfl rfl (r_move rfl) ?_
            refine lg (b := decide (e_30 = p1_target)) 42 rfl rfl rfl (by rw [hg_32]; rfl) ?_
            refine lv (v := (.int .i64 i_4)) rfl rfl (r_move rfl) ?_
            refine lg (b := decide (e_30 = p1_target)) 42 rfl rfl rfl (by rw [hg_32]; rfl) ?_
            refine lv (v := (sptr a0 (Int.toNat i_4 * 1))) rfl rfl (r_idx Try.underlying22 Try.sizeOf3 rfl rfl (at?_some hj_31).1 (at?_some hj_31).2.1 (h0.addr hj_31)) ?_
            refine lg (b := decide (e_30 = p1_target)) 42 rfl rfl rfl (by rw [hg_32]; rfl) ?_
            refine lv (v := (.int .i64 e_30)) rfl rfl (r_ld Try.isAgg3 rfl (h0.atInt hj_31)) ?_
            refine lg (b := decide (e_30 = p1_target)) 42 rfl rfl rfl (by rw [hg_32]; rfl) ?_
            obtain ⟨r_33, hr_34, hm⟩ := bind_some hm
            refine lc rfl rfl (r_call1 Try.call89 rfl) (c_slices_isNaN_int col_3 _ e_30 r_33 hr_34) ?_
            rintro _ w_35 ⟨rfl, hg_36⟩
            refine ⟨_, rfl, ?_⟩
            replace hg_36 : Grow col_3 w_2 col_3 w_35 := .of_below hg_36
            replace hst := hst.grow hg_36
            refine lg (b := decide (e_30 = p1_target)) 42 rfl rfl rfl (by rw [hg_32]; rfl) ?_
            refine lv (v := (.bool r_33)) rfl rfl (r_move rfl) ?_
            by_cases hg_37 : r_33 = true
            · rw [if_pos hg_37] at hm
              refine lg (b := r_33) 48 rfl rfl rfl (by rw [hg_37]; rfl) ?_
              refine lv (v := (.int .i64 p1_target)) rfl rfl (r_move rfl) ?_
              refine lg (b := r_33) 48 rfl rfl rfl (by rw [hg_37]; rfl) ?_
              obtain ⟨r_38, hr_39, hm⟩ := bind_some hm
              refine lc rfl rfl (r_call1 Try.call89 rfl) (c_slices_isNaN_int col_3 _ p1_target r_38 hr_39) ?_
              rintro _ w_40 ⟨rfl, hg_41⟩
              refine ⟨_, rfl, ?_⟩
              replace hg_41 : Grow col_3 w_35 col_3 w_40 := .of_below hg_41
              replace hst := hst.grow hg_41
              refine lg (b := decide (e_30 = p1_target)) 42 rfl rfl rfl (by rw [hg_32]; rfl) ?_
              refine lv (v := (.bool r_38)) rfl rfl (r_pickT (congrArg Value.bool hg_37) rfl) ?_
              refine lg (b := decide (i_4 < (p0_x.length : Int))) 35 rfl rfl rfl (by rw [hg_29]; rfl) ?_
              refine lv (v := (.bool r_38)) rfl rfl (r_pickF (congrArg Value.bool hg_32) rfl) ?_
              refine lv (v := (.bool r_38)) rfl rfl (r_pickT (congrArg Value.bool hg_29) rfl) ?_
              refine lv (v := (.int .i64 i_4)) rfl rfl (r_assign rfl) ?_
              refine lv (v := (.bool r_38)) rfl rfl (r_assign rfl) ?_
              refine lnil ?_
              exact ⟨col_3, i_4, r_38, hm, hst, rfl, rfl, rfl⟩
            · rw [if_neg hg_37] at hm
              replace hg_37 := Bool.eq_false_iff.2 hg_37
              refine lp (b := r_33) 48 rfl rfl rfl rfl (by rw [hg_37]; rfl) ?_
              refine lp (b := r_33) 48 rfl rfl rfl rfl (by rw [hg_37]; rfl) ?_
              refine lg (b := decide (e_30 = p1_target)) 42 rfl rfl rfl (by rw [hg_32]; rfl) ?_
              refine lv (v := (.bool false)) rfl rfl (r_pickF (congrArg Value.bool hg_37) rfl) ?_
              refine lg (b := decide (i_4 < (p0_x.length : Int))) 35 rfl rfl rfl (by rw [hg_29]; rfl) ?_
              refine lv (v := (.bool false)) rfl rfl (r_pickF (congrArg Value.bool hg_32) rfl) ?_
              refine lv (v := (.bool false)) rfl rfl (r_pickT (congrArg Value.bool hg_29) rfl) ?_
              refine lv (v := (.int .i64 i_4)) rfl rfl (r_assign rfl) ?_
              refine lv (v := (.bool false)) rfl rfl (r_assign rfl) ?_
              refine lnil ?_
              exact ⟨col_3, i_4, false, hm, hst, rfl, rfl, rfl⟩
        · rw [if_neg hg_29] at hm
          replace hg_29 := Bool.eq_false_iff.2 hg_29
          refine lp (b := decide (i_4 < (p0_x.length : Int))) 35 rfl rfl rfl rfl (by rw [hg_29]; rfl) ?_
          refine lp (b := decide (i_4 < (p0_x.length : Int))) 35 rfl rfl rfl rfl (by rw [hg_29]; rfl) ?_
          refine lp (b := decide (i_4 < (p0_x.length : Int))) 35 rfl rfl rfl rfl (by rw [hg_29]; rfl) ?_
          refine lp (b := decide (i_4 < (p0_x.length : Int))) 35 rfl rfl rfl rfl (by rw [hg_29]; rfl) ?_
          refine lp (b := decide (i_4 < (p0_x.length : Int))) 35 rfl rfl rfl rfl (by rw [hg_29]; rfl) ?_
          refine lp (b := decide (i_4 < (p0_x.length : Int))) 35 rfl rfl rfl rfl (by rw [hg_29]; rfl) ?_
          refine lp (b := decide (i_4 < (p0_x.length : Int))) 35 rfl rfl rfl rfl (by rw [hg_29]; rfl) ?_
          refine lpU 42 rfl rfl rfl rfl ?_
          refine lpU 42 rfl rfl rfl rfl ?_
          refine lpU 42 rfl rfl rfl rfl ?_
          refine lpU 42 rfl rfl rfl rfl ?_
          refine lpU 42 rfl rfl rfl rfl ?_
          refine lpU 42 rfl rfl rfl rfl ?_
          refine lpU 48 rfl rfl rfl rfl ?_
          refine lpU 48 rfl rfl rfl rfl ?_
          refine lpU 42 rfl rfl rfl rfl ?_
          refine lp (b := decide (i_4 < (p0_x.length : Int))) 35 rfl rfl rfl rfl (by rw [hg_29]; rfl) ?_
          refine lv (v := (.bool false)) rfl rfl (r_pickF (congrArg Value.bool hg_29) rfl) ?_
          refine lv (v := (.int .i64 i_4)) rfl rfl (r_assign rfl) ?_
          refine lv (v := (.bool false)) rfl rfl (r_assign rfl) ?_
          refine lnil ?_
          exact ⟨col_3, i_4, false, hm, hst, rfl, rfl, rfl⟩



set_option maxRecDepth 100000 in
theorem el3_17 : ElemOk Try.prog 3 1 8 := ⟨Try.t3, _, rfl, rfl, rfl, rfl, rfl⟩

def m_graph_Graph_Remove_L2 (N : Nat) (p1_a : Int) (r_5 : (List (Int × Int))) (row_13 : List Bool) : List (Int × Int) → (List (List Bool)) → Option ((List Int) × (List (Int × Int)) × List (List Bool))
  | [], g_53 => (m_slices_BinarySearch_int_int N (gkeys row_13) p1_a).bind fun r_57 => (lib_insert (gkeys row_13) r_57.1 [p1_a]).bind fun r_66 => some (r_66, r_5, g_53)
  | x_55 :: l_56, g_53 => (m_graph_Graph_Join g_53 x_55.1 x_55.2).bind fun r_87 => (m_graph_Graph_Remove_L2 N p1_a r_5 row_13 l_56) r_87.2

def m_graph_Graph_Remove_L1 (N : Nat) (p1_a : Int) (r_5 : (List (Int × Int))) (row_13 : List Bool) : List Int → (List (List Bool)) → Option ((List Int) × (List (Int × Int)) × List (List Bool))
  | [], g_34 => (at? g_34 p1_a).bind fun row_38 => (some (g_34.set (Int.toNat p1_a) (List.replicate row_38.length false))).bind fun es_47 => m_graph_Graph_Remove_L2 N p1_a r_5 row_13 r_5 es_47
  | x_36 :: l_37, g_34 => (at? g_34 x_36).bind fun row_93 => (some (g_34.set (Int.toNat x_36) (rset row_93 p1_a false))).bind fun es_102 => (m_graph_Graph_Remove_L1 N p1_a r_5 row_13 l_37) es_102

def m_graph_Graph_Remove (N : Nat) (p0_g : List (List Bool)) (p1_a : Int) : Option ((List Int) × (List (Int × Int)) × List (List Bool)) :=
  (m_graph_Graph_in p0_g p1_a).bind fun r_1 => if (!r_1) = true then (some (([] : List Int), ([] : List (Int × Int)), p0_g)) else ((m_graph_Graph_wanting p0_g p1_a).bind fun r_5 => (at? p0_g p1_a).bind fun row_13 => chk (row_13.length ≤ 1048576) (m_graph_Graph_Remove_L1 N p1_a r_5 row_13 (gkeys row_13) p0_g))

set_option maxRecDepth 100000 in
set_option maxHeartbeats 2000000 in
theorem c_graph_Graph_Remove (N : Nat) (c1 : Nat) (c2 : Nat) (col : Col) (w0 : World) (qc0 : Nat) (hd : dstB [qc0] = true) (o0 : GObj) (p0_g : List (List Bool)) (p1_a : Int) (h0 : GO 85 86 qc0 col w0 o0 p0_g) (r : ((List Int) × (List (Int × Int)) × List (List Bool))) (hm : m_graph_Graph_Remove N p0_g p1_a = some r) :
    Calls Try.prog 17 #[(.pointer (some ⟨o0.g, 0, none⟩)), (.int .i64 p1_a)] w0 (fun e w' => ∃ (col' : Col) (ra1 : Option Addr) (rc2 : Nat) (ra4 : Option Addr) (rc5 : Nat), e = .returned (.tuple #[(.slice ra1 r.1.length rc2), (.slice ra4 r.2.1.length rc5)]) ∧ KeepP (pS [qc0]) col w0 col' w' ∧ Own (Rep.int .i64) 3 c1 col' w' ra1 rc2 r.1 ∧ Own (Rep.pair (Rep.int .i64) (Rep.int .i64)) 47 c2 col' w' ra4 rc5 r.2.1 ∧ GO 85 86 qc0 col' w' o0 r.2.2) := by
  refine calls_of2 4 5 (m := 77) (args := [(.pointer (some ⟨o0.g, 0, none⟩)), (.int .i64 p1_a)]) Try.func17 rfl rfl rfl rfl rfl ?_
  rw [m_graph_Graph_Remove.eq_1] at hm
  have hst := St.startL (l := [qc0]) rfl col w0
  replace h0 := h0.startL (dst_nz hd 0 rfl) (dst_ix hd 0 rfl)
  refine wseq ?_
  refine wregion ?_
  refine lv (v := (.slice none (([] : List Int).length) 0)) rfl rfl (r_assign rfl) ?_
  refine lv (v := (.slice none (([] : List (Int × Int)).length) 0)) rfl rfl (r_assign rfl) ?_
  refine lnil ?_
  refine wseq ?_
  refine wseq ?_
  refine wregion ?_
  refine lv (v := (.pointer (some ⟨o0.g, 0, none⟩))) rfl rfl (r_move rfl) ?_
  refine lv (v := (.int .i64 p1_a)) rfl rfl (r_move rfl) ?_
  obtain ⟨r_1, hr_2, hm⟩ := bind_some hm
  refine lc rfl rfl (r_call2 Try.call54 rfl rfl) (c_graph_Graph_in (colL [qc0] col) _ 440 (by decide) o0 p0_g p1_a h0 r_1 hr_2) ?_
  rintro _ w_3 ⟨rfl, hg_4⟩
  refine ⟨_, rfl, ?_⟩
  replace hg_4 : Grow (colL [qc0] col) w0 (colL [qc0] col) w_3 := .of_below hg_4
  replace h0 := h0.gr hg_4
  replace hst := hst.grow hg_4
  refine lv (v := (.bool (!r_1))) rfl rfl (r_not r_1 rfl) ?_
  refine lnil ?_
  refine wcond (!r_1) rfl (fun hb => ?_) (fun hb => ?_)
  · rw [if_pos hb] at hm
    clear hb
    refine wseq ?_
    refine wregion ?_
    refine lv (v := (.slice none (([] : List Int).length) 0)) rfl rfl (r_assign rfl) ?_
    refine lv (v := (.slice none (([] : List (Int × Int)).length) 0)) rfl rfl (r_assign rfl) ?_
    refine lnil ?_
    refine wret ?_
    cases hm
    exact ⟨rfl, colFL w0.heap.size [qc0] col (colL [qc0] col) (fun n => bif Nat.beq n 440 then qc0 else 0), none, 0, none, 0, rfl, hst.finL rfl (fun n => bif Nat.beq n 440 then qc0 else 0), Own.nil, Own.nil, hst.finGOL (G := (fun n => bif Nat.beq n 440 then qc0 else 0)) rfl h0 (by decide) (by decide) rfl⟩
  · rw [if_neg (by rw [hb]; decide)] at hm
    clear hb
    refine wskip ?_
    refine wseq ?_
    refine wregion ?_
    refine lv (v := (.pointer (some ⟨o0.g, 0, none⟩))) rfl rfl (r_move rfl) ?_
    refine lv (v := (.int .i64 p1_a)) rfl rfl (r_move rfl) ?_
    obtain ⟨r_5, hr_6, hm⟩ := bind_some hm
    refine lc rfl rfl (r_call2 Try.call53 rfl rfl) (c_graph_Graph_wanting 1 (colL [qc0] col) _ 440 (by decide) o0 p0_g p1_a h0 r_5 hr_6) ?_
    rintro _ w_10 ⟨col_12, ra_7, rc_8, rfl, hg_11, rh_9⟩
    refine ⟨_, rfl, ?_⟩
    replace h0 := h0.gr hg_11
    replace hst := hst.grow hg_11
    refine lv (v := (.slice ra_7 r_5.length rc_8)) rfl rfl (r_assign rfl) ?_
    refine lnil ?_
    refine wseq ?_
    refine wregion ?_
    refine lv (v := (.pointer (some ⟨o0.g, 0, none⟩))) rfl rfl (r_move rfl) ?_
    refine lv (v := (.pointer (some ⟨o0.g, 0, none⟩))) rfl rfl (r_nilCheck rfl) ?_
    refine lv (v := (.pointer ((some (⟨o0.g, 0, none⟩ : Addr)).map (·.add 0)))) rfl rfl (r_fieldAddr (sz := 1) (off := 0) Try.underlying85 rfl Try.sizeOf83 (by decide) rfl rfl ⟨_, _, rfl⟩) ?_
    refine lv (v := (.slice o0.a p0_g.length o0.cap)) rfl rfl (r_ld Try.isAgg83 rfl ((h0.box.atN).nth (q := 0) (v := (.slice o0.a p0_g.length o0.cap)) rfl)) ?_
    refine lv (v := (.int .i64 p1_a)) rfl rfl (r_move rfl) ?_
    obtain ⟨row_13, hj_14, hm⟩ := bind_some hm
    obtain ⟨b_15, hb_16, _, hb_17⟩ := h0.blk hj_14
    refine lv (v := (sptr o0.a (Int.toNat p1_a * 1))) rfl rfl (r_idx Try.underlying83 Try.sizeOf86 rfl rfl (at?_some hj_14).1 (at?_some hj_14).2.1 (h0.addr hb_16)) ?_
    refine lv (v := (.map (some b_15))) rfl rfl (r_ld Try.isAgg86 rfl (h0.at1 hb_16)) ?_
    refine lc rfl rfl (r_call1 Try.call56 rfl) (c_keys 2 b_15 col_12 _) ?_
    rintro _ w_18 ⟨col_19, g_20, rfl, hg_21, hb_22⟩
    refine ⟨_, rfl, ?_⟩
    replace h0 := h0.gr hg_21
    replace rh_9 := rh_9.gr hg_21
    replace hst := hst.grow hg_21
    obtain ⟨hc_29, hm⟩ := chk_some hm
    refine lc rfl rfl (r_call1 Try.call55 rfl) (c_sortedKeys 3 2 440 b_15 g_20 col_19 _ row_13 hb_22 (h0.maps _ _ _ hb_17 (at?_some hj_14).2.2) hc_29) ?_
    rintro _ w_23 ⟨col_24, a_25, cap_26, rfl, hg_27, h_28⟩
    refine ⟨_, rfl, ?_⟩
    replace h0 := h0.gr hg_27
    replace rh_9 := rh_9.gr hg_27
    replace hst := hst.grow hg_27
    refine lv (v := (.slice a_25 ((gkeys row_13).length) cap_26)) rfl rfl (r_assign rfl) ?_
    refine lnil ?_
    refine wseq ?_
    refine wseq ?_
    refine wregion ?_
    refine lv (v := (.slice a_25 ((gkeys row_13).length) cap_26)) rfl rfl (r_move rfl) ?_
    refine lv (v := (.int .i64 ((gkeys row_13).length : Int))) rfl rfl (r_len Try.underlying22 rfl) ?_
    refine lv (v := (.int .i64 0)) rfl rfl (r_move rfl) ?_
    refine lnil ?_
    refine wblock ?_
    refine wloop (fun n f w_32 => ∃ (col_33 : Col) (g_34 : List (List Bool)) (k_30 : Nat) (l_31 : List Int), n = l_31.length ∧ (gkeys row_13).drop k_30 = l_31 ∧ m_graph_Graph_Remove_L1 N p1_a r_5 row_13 l_31 g_34 = some r ∧ St w0 (colL [qc0] col) col_33 w_32 ∧ GO 85 86 440 col_33 w_32 o0 g_34 ∧ Own (Rep.int .i64) 3 3 col_33 w_32 a_25 cap_26 (gkeys row_13) ∧ Own (Rep.pair (Rep.int .i64) (Rep.int .i64)) 47 1 col_33 w_32 ra_7 rc_8 r_5 ∧ f 32 = (.int .i64 (k_30 : Int)) ∧ f 0 = (.pointer (some ⟨o0.g, 0, none⟩)) ∧ f 1 = (.int .i64 p1_a) ∧ f 30 = (.slice a_25 ((gkeys row_13).length) cap_26) ∧ f 31 = (.int .i64 ((gkeys row_13).length : Int)) ∧ f 6 = (.slice ra_7 r_5.length rc_8) ∧ f 7 = (.slice a_25 ((gkeys row_13).length) cap_26) ∧ f 1000000 = (enc [])) (gkeys row_13).length ⟨col_24, p0_g, 0, (gkeys row_13), rfl, rfl, hm, hst, h0, h_28, rh_9, rfl, rfl, rfl, rfl, rfl, rfl, rfl, rfl⟩ ?_
    clear hm; intro n f w_32 hI
    obtain ⟨col_33, g_34, k_30, l_31, hn, hl, hm, hst, h_35, h_28, rh_9, hs32, hs0, hs1, hs30, hs31, hs6, hs7, hs1000000⟩ := hI
    subst hn
    refine .ld (d := 32) (v := (.int .i64 (k_30 : Int))) hs32 ?_
    refine .ld (d := 0) (v := (.pointer (some ⟨o0.g, 0, none⟩))) hs0 ?_
    refine .ld (d := 1) (v := (.int .i64 p1_a)) hs1 ?_
    refine .ld (d := 30) (v := (.slice a_25 ((gkeys row_13).length) cap_26)) hs30 ?_
    refine .ld (d := 31) (v := (.int .i64 ((gkeys row_13).length : Int))) hs31 ?_
    refine .ld (d := 6) (v := (.slice ra_7 r_5.length rc_8)) hs6 ?_
    refine .ld (d := 7) (v := (.slice a_25 ((gkeys row_13).length) cap_26)) hs7 ?_
    refine .ld (d := 1000000) (v := (enc [])) hs1000000 ?_
    clear hs32 hs0 hs1 hs30 hs31 hs6 hs7 hs1000000
    cases l_31 with
    | nil =>
      have hk : ¬ ((k_30 : Int) < ((gkeys row_13).length : Int)) := by have := List.drop_eq_nil_iff.1 hl; omega
      have hkb := decide_eq_false hk
      rw [m_graph_Graph_Remove_L1.eq_1] at hm
      refine wseq ?_
      refine wregion ?_
      refine lv (v := (.bool (decide ((k_30 : Int) < ((gkeys row_13).length : Int))))) rfl rfl (r_lss (k_30 : Int) ((gkeys row_13).length : Int) rfl rfl) ?_
      refine lnil ?_
      refine wseq ?_
      refine wcondF (congrArg Value.bool hkb) ?_
      refine wexit (inB_hit ?_)
      refine wseq ?_
      refine wregion ?_
      refine lv (v := (.pointer (some ⟨o0.g, 0, none⟩))) rfl rfl (r_move rfl) ?_
      refine lv (v := (.pointer (some ⟨o0.g, 0, none⟩))) rfl rfl (r_nilCheck rfl) ?_
      refine lv (v := (.pointer ((some (⟨o0.g, 0, none⟩ : Addr)).map (·.add 0)))) rfl rfl (r_fieldAddr (sz := 1) (off := 0) Try.underlying85 rfl Try.sizeOf83 (by decide) rfl rfl ⟨_, _, rfl⟩) ?_
      refine lv (v := (.slice o0.a g_34.length o0.cap)) rfl rfl (r_ld Try.isAgg83 rfl ((h_35.box.atN).nth (q := 0) (v := (.slice o0.a g_34.length o0.cap)) rfl)) ?_
      refine lv (v := (.int .i64 p1_a)) rfl rfl (r_move rfl) ?_
      obtain ⟨row_38, hj_39, hm⟩ := bind_some hm
      obtain ⟨b_40, hb_41, _, hb_42⟩ := h_35.blk hj_39
      refine lv (v := (sptr o0.a (Int.toNat p1_a * 1))) rfl rfl (r_idx Try.underlying83 Try.sizeOf86 rfl rfl (at?_some hj_39).1 (at?_some hj_39).2.1 (h_35.addr hb_41)) ?_
      refine lv (v := (.map (some b_40))) rfl rfl (r_ld Try.isAgg86 rfl (h_35.at1 hb_41)) ?_
      obtain ⟨es_47, hz_48, hm⟩ := bind_some hm
      have hz_48 : es_47 = g_34.set (Int.toNat p1_a) (List.replicate row_38.length false) := (Option.some.inj hz_48).symm
      refine l_gclear h_35 (by decide) hb_42 (at?_some hj_39).2.2 Try.underlying86 rfl ?_
      intro w_43 hk_44 hs_45 h_46
      rw [← hz_48] at h_46
      clear hz_48
      replace rh_9 := rh_9.kp hk_44 (by decide) (by decide)
      replace h_28 := h_28.kp hk_44 (by decide) (by decide)
      replace hst := hst.kp hk_44 hs_45 (by decide) (by decide)
      clear h_35
      refine lnil ?_
      refine wseq ?_
      refine wseq ?_
      refine wregion ?_
      refine lv (v := (.slice ra_7 r_5.length rc_8)) rfl rfl (r_move rfl) ?_
      refine lv (v := (.int .i64 (r_5.length : Int))) rfl rfl (r_len Try.underlying29 rfl) ?_
      refine lv (v := (.int .i64 0)) rfl rfl (r_move rfl) ?_
      refine lnil ?_
      refine wblock ?_
      refine wloop (fun n f w_51 => ∃ (col_52 : Col) (g_53 : List (List Bool)) (k_49 : Nat) (l_50 : List (Int × Int)), n = l_50.length ∧ r_5.drop k_49 = l_50 ∧ m_graph_Graph_Remove_L2 N p1_a r_5 row_13 l_50 g_53 = some r ∧ St w0 (colL [qc0] col) col_52 w_51 ∧ GO 85 86 440 col_52 w_51 o0 g_53 ∧ Own (Rep.pair (Rep.int .i64) (Rep.int .i64)) 47 1 col_52 w_51 ra_7 rc_8 r_5 ∧ Own (Rep.int .i64) 3 3 col_52 w_51 a_25 cap_26 (gkeys row_13) ∧ f 54 = (.int .i64 (k_49 : Int)) ∧ f 0 = (.pointer (some ⟨o0.g, 0, none⟩)) ∧ f 1 = (.int .i64 p1_a) ∧ f 52 = (.slice ra_7 r_5.length rc_8) ∧ f 53 = (.int .i64 (r_5.length : Int)) ∧ f 6 = (.slice ra_7 r_5.length rc_8) ∧ f 7 = (.slice a_25 ((gkeys row_13).length) cap_26) ∧ f 1000000 = (enc [])) r_5.length ⟨col_33, es_47, 0, r_5, rfl, rfl, hm, hst, h_46, rh_9, h_28, rfl, rfl, rfl, rfl, rfl, rfl, rfl, rfl⟩ ?_
      clear hm; intro n f w_51 hI
      obtain ⟨col_52, g_53, k_49, l_50, hn, hl, hm, hst, h_54, rh_9, h_28, hs54, hs0, hs1, hs52, hs53, hs6, hs7, hs1000000⟩ := hI
      subst hn
      refine .ld (d := 54) (v := (.int .i64 (k_49 : Int))) hs54 ?_
      refine .ld (d := 0) (v := (.pointer (some ⟨o0.g, 0, none⟩))) hs0 ?_
      refine .ld (d := 1) (v := (.int .i64 p1_a)) hs1 ?_
      refine .ld (d := 52) (v := (.slice ra_7 r_5.length rc_8)) hs52 ?_
      refine .ld (d := 53) (v := (.int .i64 (r_5.length : Int))) hs53 ?_
      refine .ld (d := 6) (v := (.slice ra_7 r_5.length rc_8)) hs6 ?_
      refine .ld (d := 7) (v := (.slice a_25 ((gkeys row_13).length) cap_26)) hs7 ?_
      refine .ld (d := 1000000) (v := (enc [])) hs1000000 ?_
      clear hs54 hs0 hs1 hs52 hs53 hs6 hs7 hs1000000
      cases l_50 with
      | nil =>
        have hk : ¬ ((k_49 : Int) < (r_5.length : Int)) := by have := List.drop_eq_nil_iff.1 hl; omega
        have hkb := decide_eq_false hk
        rw [m_graph_Graph_Remove_L2.eq_1] at hm
        refine wseq ?_
        refine wregion ?_
        refine lv (v := (.bool (decide ((k_49 : Int) < (r_5.length : Int))))) rfl rfl (r_lss (k_49 : Int) (r_5.length : Int) rfl rfl) ?_
        refine lnil ?_
        refine wseq ?_
        refine wcondF (congrArg Value.bool hkb) ?_
        refine wexit (inB_hit ?_)
        refine wseq ?_
        refine wregion ?_
        refine lv (v := (.slice a_25 ((gkeys row_13).length) cap_26)) rfl rfl (r_move rfl) ?_
        refine lv (v := (.int .i64 p1_a)) rfl rfl (r_move rfl) ?_
        obtain ⟨r_57, hr_58, hm⟩ := bind_some hm
        refine lc rfl rfl (r_call2 Try.call57 rfl rfl) (c_slices_BinarySearch_int_int N (frC 3 col_52) _ a_25 cap_26 (gkeys row_13) p1_a (h_28.toSlF (Froz.int .i64)) r_57 hr_58) ?_
        rintro _ w_59 ⟨rfl, hg_60⟩
        refine ⟨_, rfl, ?_⟩
        replace hg_60 : Grow col_52 w_51 col_52 w_59 := .of_below hg_60
        replace rh_9 := rh_9.gr hg_60
        replace h_28 := h_28.gr hg_60
        replace h_54 := h_54.gr hg_60
        replace hst := hst.grow hg_60
        refine lv (v := (.tuple #[(.int .i64 r_57.1), (.bool r_57.2)])) rfl rfl (r_move rfl) ?_
        refine lv (v := (.int .i64 r_57.1)) rfl rfl (r_extract rfl rfl) ?_
        refine lv (v := (.bool r_57.2)) rfl rfl (r_extract rfl rfl) ?_
        refine lv (v := (.int .i64 r_57.1)) rfl rfl (r_assign rfl) ?_
        refine lv (v := (.bool r_57.2)) rfl rfl (r_assign rfl) ?_
        refine lnil ?_
        refine wseq ?_
        refine wregion ?_
        refine lv (v := (.slice a_25 ((gkeys row_13).length) cap_26)) rfl rfl (r_move rfl) ?_
        refine lv (v := (.int .i64 r_57.1)) rfl rfl (r_move rfl) ?_
        refine lv (v := (.int .i64 p1_a)) rfl rfl (r_move rfl) ?_
        refine l_lit (col := col_52) (r := (Rep.int .i64)) (xs := [p1_a]) [(.int .i64 p1_a)] 4 rfl Try.underlying22 el3_17 rfl rfl rfl rfl rfl rfl (by intro v hv; simp only [List.mem_cons, List.not_mem_nil, or_false] at hv; subst hv; rfl) (RowsH.ofF (Rows.consF (r := (Rep.int .i64)) (x := p1_a) (cs := [(.int .i64 p1_a)]) (rd_int .i64 p1_a) Rows.nil0)) ?_
        intro a_61 w_62 col_63 hg_64 h_65
        replace rh_9 := rh_9.gr hg_64
        replace h_54 := h_54.gr hg_64
        replace h_28 := h_28.gr hg_64
        replace hst := hst.grow hg_64
        obtain ⟨r_66, hr_67, hm⟩ := bind_some hm
        refine lc rfl rfl (r_call3 Try.call58 rfl rfl rfl) (c_insert 3 4 (by decide) (by decide) col_63 _ a_25 cap_26 (gkeys row_13) r_57.1 a_61 1 [p1_a] h_28 h_65 r_66 hr_67) ?_
        rintro _ w_68 ⟨col_69, a_70, cap_71, rfl, hk_72, h_73⟩
        refine ⟨_, rfl, ?_⟩
        replace rh_9 := rh_9.kpp hk_72 rfl rfl
        replace h_54 := h_54.kpp hk_72 rfl rfl
        replace h_65 := h_65.kpp hk_72 rfl rfl
        replace hst := hst.kpp hk_72 rfl rfl
        clear h_28
        refine lv (v := (.slice ra_7 r_5.length rc_8)) rfl rfl (r_move rfl) ?_
        refine lv (v := (.slice a_70 r_66.length cap_71)) rfl rfl (r_assign rfl) ?_
        refine lv (v := (.slice ra_7 r_5.length rc_8)) rfl rfl (r_assign rfl) ?_
        refine lnil ?_
        refine wret ?_
        cases hm
        exact ⟨rfl, colFL w0.heap.size [qc0] col col_69 (fun n => bif Nat.beq n 3 then c1 else bif Nat.beq n 1 then c2 else bif Nat.beq n 440 then qc0 else 0), a_70, cap_71, ra_7, rc_8, rfl, hst.finL rfl (fun n => bif Nat.beq n 3 then c1 else bif Nat.beq n 1 then c2 else bif Nat.beq n 440 then qc0 else 0), hst.finOwnL (g := (fun n => bif Nat.beq n 3 then c1 else bif Nat.beq n 1 then c2 else bif Nat.beq n 440 then qc0 else 0)) rfl h_73 (by decide) (by decide) rfl, hst.finOwnL (g := (fun n => bif Nat.beq n 3 then c1 else bif Nat.beq n 1 then c2 else bif Nat.beq n 440 then qc0 else 0)) rfl rh_9 (by decide) (by decide) rfl, hst.finGOL (G := (fun n => bif Nat.beq n 3 then c1 else bif Nat.beq n 1 then c2 else bif Nat.beq n 440 then qc0 else 0)) rfl h_54 (by decide) (by decide) rfl⟩
      | cons x_55 l_56 =>
        obtain ⟨hat, hl2, hlt⟩ := drop_get hl
        have hk : (k_49 : Int) < (r_5.length : Int) := by omega
        have hkb := decide_eq_true hk
        rw [m_graph_Graph_Remove_L2.eq_2] at hm
        refine wseq ?_
        refine wregion ?_
        refine lv (v := (.bool (decide ((k_49 : Int) < (r_5.length : Int))))) rfl rfl (r_lss (k_49 : Int) (r_5.length : Int) rfl rfl) ?_
        refine lnil ?_
        refine wseq ?_
        refine wcondT (congrArg Value.bool hkb) ?_
        refine wskip ?_
        refine wseq ?_
        refine wblock ?_
        refine wseq ?_
        refine wregion ?_
        refine lv (v := (sptr ra_7 (Int.toNat (k_49 : Int) * 2))) rfl rfl (r_idx Try.underlying29 Try.sizeOf47 rfl rfl (at?_some hat).1 (at?_some hat).2.1 (rh_9.addr hat)) ?_
        obtain ⟨_, hr_74, hA_75⟩ := rh_9.atN hat
        obtain ⟨_, _, rfl, hp_76, hp_77⟩ := hr_74.parts
        obtain rfl := hp_76.int
        obtain rfl := hp_77.int
        refine lv (v := (.agg #[(.int .i64 x_55.1), (.int .i64 x_55.2)])) rfl rfl (r_ldN Try.isAgg47 Try.sizeOf47 rfl rfl hA_75) ?_
        refine l_alloc (col := col_52) (v := (.agg #[(.int .i64 0), (.int .i64 0)])) 5 rfl Try.zeroValue47 ?_
        intro g_78 w_79 col_80 hg_81 hb_82
        replace h_54 := h_54.gr hg_81
        replace rh_9 := rh_9.gr hg_81
        replace h_28 := h_28.gr hg_81
        replace hst := hst.grow hg_81
        replace hb_82 : Box 47 5 col_80 w_79 g_78 #[(.int .i64 0), (.int .i64 0)] := hb_82
        refine l_bstore (v := (.agg #[(.int .i64 x_55.1), (.int .i64 x_55.2)])) hb_82 Try.sizeOf47 rfl rfl (by intro u hu; simp only [Value.cells, List.mem_cons, List.not_mem_nil, or_false] at hu; rcases hu with rfl | rfl <;> rfl) rfl rfl ?_
        intro w_83 hk_84 hs_85 hb_86
        replace h_54 := h_54.kp hk_84 (by decide) (by decide)
        replace rh_9 := rh_9.kp hk_84 (by decide) (by decide)
        replace h_28 := h_28.kp hk_84 (by decide) (by decide)
        replace hst := hst.kp hk_84 hs_85 (by decide) (by decide)
        clear hb_82
        replace hb_86 : Box 47 5 col_80 w_83 g_78 #[(.int .i64 x_55.1), (.int .i64 x_55.2)] := hb_86
        refine lnil ?_
        refine wregion ?_
        refine lv (v := (.pointer (some ⟨o0.g, 0, none⟩))) rfl rfl (r_move rfl) ?_
        refine lv (v := (.pointer ((some (⟨g_78, 0, none⟩ : Addr)).map (·.add 0)))) rfl rfl (r_fieldAddr (sz := 1) (off := 0) Try.underlying47 rfl Try.sizeOf3 (by decide) rfl rfl ⟨_, _, rfl⟩) ?_
        refine lv (v := (.int .i64 x_55.1)) rfl rfl (r_ld Try.isAgg3 rfl ((hb_86.atN).nth (q := 0) (v := (.int .i64 x_55.1)) rfl)) ?_
        refine lv (v := (.pointer ((some (⟨g_78, 0, none⟩ : Addr)).map (·.add 1)))) rfl rfl (r_fieldAddr (sz := 1) (off := 1) Try.underlying47 rfl Try.sizeOf3 (by decide) rfl rfl ⟨_, _, rfl⟩) ?_
        refine lv (v := (.int .i64 x_55.2)) rfl rfl (r_ld Try.isAgg3 rfl ((hb_86.atN).nth (q := 1) (v := (.int .i64 x_55.2)) rfl)) ?_
        obtain ⟨r_87, hr_88, hm⟩ := bind_some hm
        refine lc rfl rfl (r_call3 Try.call23 rfl rfl rfl) (c_graph_Graph_Join col_80 _ 440 rfl o0 g_53 x_55.1 x_55.2 h_54 r_87 hr_88) ?_
        rintro _ w_90 ⟨col_92, rfl, hg_91, oh_89⟩
        refine ⟨_, rfl, ?_⟩
        replace rh_9 := rh_9.kpp hg_91 rfl rfl
        replace h_28 := h_28.kpp hg_91 rfl rfl
        replace hst := hst.kpp hg_91 rfl rfl
        clear h_54
        refine lnil ?_
        refine wregion ?_
        refine lv (v := (.int .i64 (IntKind.i64.wrap ((k_49 : Int) + 1)))) rfl rfl (r_add (k_49 : Int) 1 rfl rfl) ?_
        refine lv (v := (.int .i64 (IntKind.i64.wrap ((k_49 : Int) + 1)))) rfl rfl (r_move rfl) ?_
        refine lnil ?_
        exact ⟨l_56.length, by simp, ⟨col_92, r_87.2, (k_49 + 1), l_56, rfl, hl2, hm, hst, oh_89, rh_9, h_28, (congrArg (Value.int .i64) (wrap_succ (Nat.lt_of_lt_of_le hlt rh_9.len))), rfl, rfl, rfl, rfl, rfl, rfl, rfl⟩⟩
    | cons x_36 l_37 =>
      obtain ⟨hat, hl2, hlt⟩ := drop_get hl
      have hk : (k_30 : Int) < ((gkeys row_13).length : Int) := by omega
      have hkb := decide_eq_true hk
      rw [m_graph_Graph_Remove_L1.eq_2] at hm
      refine wseq ?_
      refine wregion ?_
      refine lv (v := (.bool (decide ((k_30 : Int) < ((gkeys row_13).length : Int))))) rfl rfl (r_lss (k_30 : Int) ((gkeys row_13).length : Int) rfl rfl) ?_
      refine lnil ?_
      refine wseq ?_
      refine wcondT (congrArg Value.bool hkb) ?_
      refine wskip ?_
      refine wseq ?_
      refine wblock ?_
      refine wseq ?_
      refine wregion ?_
      refine lv (v := (sptr a_25 (Int.toNat (k_30 : Int) * 1))) rfl rfl (r_idx Try.underlying22 Try.sizeOf3 rfl rfl (at?_some hat).1 (at?_some hat).2.1 (h_28.addr hat)) ?_
      refine lv (v := (.int .i64 x_36)) rfl rfl (r_ld Try.isAgg3 rfl (h_28.atInt hat)) ?_
      refine lv (v := (.int .i64 x_36)) rfl rfl (r_assign rfl) ?_
      refine lnil ?_
      refine wregion ?_
      refine lv (v := (.pointer (some ⟨o0.g, 0, none⟩))) rfl rfl (r_move rfl) ?_
      refine lv (v := (.pointer (some ⟨o0.g, 0, none⟩))) rfl rfl (r_nilCheck rfl) ?_
      refine lv (v := (.pointer ((some (⟨o0.g, 0, none⟩ : Addr)).map (·.add 0)))) rfl rfl (r_fieldAddr (sz := 1) (off := 0) Try.underlying85 rfl Try.sizeOf83 (by decide) rfl rfl ⟨_, _, rfl⟩) ?_
      refine lv (v := (.slice o0.a g_34.length o0.cap)) rfl rfl (r_ld Try.isAgg83 rfl ((h_35.box.atN).nth (q := 0) (v := (.slice o0.a g_34.length o0.cap)) rfl)) ?_
      refine lv (v := (.int .i64 x_36)) rfl rfl (r_move rfl) ?_
      obtain ⟨row_93, hj_94, hm⟩ := bind_some hm
      obtain ⟨b_95, hb_96, _, hb_97⟩ := h_35.blk hj_94
      refine lv (v := (sptr o0.a (Int.toNat x_36 * 1))) rfl rfl (r_idx Try.underlying83 Try.sizeOf86 rfl rfl (at?_some hj_94).1 (at?_some hj_94).2.1 (h_35.addr hb_96)) ?_
      refine lv (v := (.map (some b_95))) rfl rfl (r_ld Try.isAgg86 rfl (h_35.at1 hb_96)) ?_
      refine lv (v := (.int .i64 p1_a)) rfl rfl (r_move rfl) ?_
      obtain ⟨es_102, hz_103, hm⟩ := bind_some hm
      have hz_103 : es_102 = g_34.set (Int.toNat x_36) (rset row_93 p1_a false) := (Option.some.inj hz_103).symm
      refine l_gdel (k := p1_a) h_35 (by decide) hb_97 (at?_some hj_94).2.2 Try.underlying86 Try.underlying3 rfl rfl ?_
      intro w_98 hk_99 hs_100 h_101
      rw [← hz_103] at h_101
      clear hz_103
      replace h_28 := h_28.kp hk_99 (by decide) (by decide)
      replace rh_9 := rh_9.kp hk_99 (by decide) (by decide)
      replace hst := hst.kp hk_99 hs_100 (by decide) (by decide)
      clear h_35
      refine lnil ?_
      refine wregion ?_
      refine lv (v := (.int .i64 (IntKind.i64.wrap ((k_30 : Int) + 1)))) rfl rfl (r_add (k_30 : Int) 1 rfl rfl) ?_
      refine lv (v := (.int .i64 (IntKind.i64.wrap ((k_30 : Int) + 1)))) rfl rfl (r_move rfl) ?_
      refine lnil ?_
      exact ⟨l_37.length, by simp, ⟨col_33, es_102, (k_30 + 1), l_37, rfl, hl2, hm, hst, h_101, h_28, rh_9, (congrArg (Value.int .i64) (wrap_succ (Nat.lt_of_lt_of_le hlt h_28.len))), rfl, rfl, rfl, rfl, rfl, rfl, rfl⟩⟩



set_option maxRecDepth 100000 in
theorem el3_71V0NV2F16 : ElemOk Try.prog 3 1 8 := ⟨Try.t3, _, rfl, rfl, rfl, rfl, rfl⟩

def m_order_by_v0n_v2f16_L1 (N : Nat)  : Nat → (List Int) → (List Int) → Option ((List Int) × Int)
  | 0, _, _ => none
  | n_31 + 1, left_34, list_38 => if (decide (0 < (left_34.length : Int))) = true then ((at? left_34 0).bind fun e_42 => none) else (some (list_38, 0))

def m_order_by_v0n_v2f16_J1 (k_82 : Nat) (kk_L3 : (Nat → Int → Int → (List (List Bool)) → Option ((List Int) × Int))) (best_128 : Int) (least_129 : Int) (h_130 : List (List Bool)) : Option ((List Int) × Int) :=
  kk_L3 (k_82 + 1) best_128 least_129 h_130

def m_order_by_v0n_v2f16_L3 (N : Nat) (left_62 : List Int) (list_66 : List Int) (kk_L2 : ((List Int) → (List Int) → (List (List Bool)) → Option ((List Int) × Int))) : List Int → Nat → Int → Int → (List (List Bool)) → Option ((List Int) × Int)
  | [], k_82, best_86, least_87, h_88 => (at? left_62 best_86).bind fun e_92 => chk ((list_66.length + [e_92].length) * 8 ≤ 140737488355328 ∧ list_66.length + [e_92].length ≤ maxLen) ((m_graph_Graph_Remove N h_88 e_92).bind fun r_106 => (lib_delete left_62 best_86 (IntKind.i64.wrap (best_86 + 1))).bind fun r_118 => kk_L2 r_118 (list_66 ++ [e_92]) r_106.2.2)
  | x_90 :: l_91, k_82, best_86, least_87, h_88 => (m_graph_Graph_Fill h_88 x_90).bind fun r_132 => if (decide (r_132 < least_87)) = true then (m_order_by_v0n_v2f16_J1 k_82 (m_order_by_v0n_v2f16_L3 N left_62 list_66 kk_L2 l_91) (IntKind.i64.wrap ((k_82 : Int) + 1)) r_132 h_88) else (m_order_by_v0n_v2f16_J1 k_82 (m_order_by_v0n_v2f16_L3 N left_62 list_66 kk_L2 l_91) best_86 least_87 h_88)

def m_order_by_v0n_v2f16_L2 (N : Nat)  : Nat → (List Int) → (List Int) → (List (List Bool)) → Option ((List Int) × Int)
  | 0, _, _, _ => none
  | n_59 + 1, left_62, list_66, h_70 => if (decide (0 < (left_62.length : Int))) = true then ((at? left_62 0).bind fun e_72 => (m_graph_Graph_Fill h_70 e_72).bind fun r_74 => chk ((0 : Int) ≤ 1 ∧ 1 ≤ (left_62.length : Int)) (m_order_by_v0n_v2f16_L3 N left_62 list_66 (m_order_by_v0n_v2f16_L2 N n_59) (left_62.drop (Int.toNat 1)) 0 0 r_74 h_70)) else (some (list_66, 0))

def m_order_by_v0n_v2f16 (N : Nat) (p1_points : (List Int)) : Option ((List Int) × Int) :=
  (m_order_wrong_v0n p1_points).bind fun r_1 => if (!decide (r_1 = 0)) = true then (some (([] : List Int), r_1)) else ((m_order_copied_v0n).bind fun r_5 => optC (r_5) ((m_slices_Values_int_int p1_points).bind fun r_16 => (m_slices_Sorted_int r_16).bind fun r_23 => m_order_by_v0n_v2f16_L1 N N r_23 ([] : List Int)) (fun t_12 => (m_slices_Values_int_int p1_points).bind fun r_44 => (m_slices_Sorted_int r_44).bind fun r_51 => m_order_by_v0n_v2f16_L2 N N r_51 ([] : List Int) t_12))

set_option maxRecDepth 100000 in
set_option maxHeartbeats 2000000 in
theorem c_order_by_v0n_v2f16 (N : Nat) (c1 : Nat) (col : Col) (w0 : World) (a1 : Option Addr) (cap1 : Nat) (p1_points : (List Int)) (h1 : Sl (Rep.int .i64) col w0 a1 cap1 p1_points) (r : ((List Int) × Int)) (hm : m_order_by_v0n_v2f16 N p1_points = some r) :
    Calls Try.prog 71 #[(.pointer none), (.slice a1 p1_points.length cap1), (.func (.func 16) #[] #[])] w0 (fun e w' => ∃ (col' : Col) (ra1 : Option Addr) (rc2 : Nat), e = .returned (.tuple #[(.slice ra1 r.1.length rc2), (.int .i64 r.2)]) ∧ Grow col w0 col' w' ∧ Own (Rep.int .i64) 3 c1 col' w' ra1 rc2 r.1) := by
  refine calls_of2 6 7 (m := 75) (args := [(.pointer none), (.slice a1 p1_points.length cap1), (.func (.func 16) #[] #[])]) Try.func71 rfl rfl rfl rfl rfl ?_
  rw [m_order_by_v0n_v2f16.eq_1] at hm
  have hst := St.start col w0
  replace h1 := h1.keep (Stay.start col w0)
  refine wseq ?_
  refine wregion ?_
  refine lv (v := (.slice none (([] : List Int).length) 0)) rfl rfl (r_assign rfl) ?_
  refine lv (v := (.int .i64 0)) rfl rfl (r_assign rfl) ?_
  refine lnil ?_
  refine wseq ?_
  refine wseq ?_
  refine wregion ?_
  refine lv (v := (.pointer none)) rfl rfl (r_move rfl) ?_
  refine lv (v := (.slice a1 p1_points.length cap1)) rfl rfl (r_move rfl) ?_
  obtain ⟨r_1, hr_2, hm⟩ := bind_some hm
  refine lc rfl rfl (r_call2 Try.call75 rfl rfl) (c_order_wrong_v0n (col0 col) _ a1 cap1 p1_points h1 r_1 hr_2) ?_
  rintro _ w_3 ⟨rfl, hg_4⟩
  refine ⟨_, rfl, ?_⟩
  replace hg_4 : Grow (col0 col) w0 (col0 col) w_3 := .of_below hg_4
  replace h1 := h1.gr hg_4
  replace hst := hst.grow hg_4
  refine lv (v := (.int .i64 r_1)) rfl rfl (r_assign rfl) ?_
  refine lnil ?_
  refine wseq ?_
  refine wregion ?_
  refine lv (v := (.int .i64 r_1)) rfl rfl (r_move rfl) ?_
  refine lv (v := (.bool (!decide (r_1 = 0)))) rfl rfl (r_neq r_1 0 rfl rfl) ?_
  refine lnil ?_
  refine wcond (!decide (r_1 = 0)) rfl (fun hb => ?_) (fun hb => ?_)
  · rw [if_pos hb] at hm
    clear hb
    refine wseq ?_
    refine wregion ?_
    refine lv (v := (.int .i64 r_1)) rfl rfl (r_move rfl) ?_
    refine lv (v := (.slice none (([] : List Int).length) 0)) rfl rfl (r_assign rfl) ?_
    refine lv (v := (.int .i64 r_1)) rfl rfl (r_assign rfl) ?_
    refine lnil ?_
    refine wret ?_
    cases hm
    exact ⟨rfl, colF w0.heap.size col (col0 col) (fun n => 0), none, 0, rfl, hst.fin (fun n => 0), Own.nil⟩
  · rw [if_neg (by rw [hb]; decide)] at hm
    clear hb
    refine wskip ?_
    refine wseq ?_
    refine wregion ?_
    refine lv (v := (.pointer none)) rfl rfl (r_move rfl) ?_
    obtain ⟨r_5, hr_6, hm⟩ := bind_some hm
    refine lc rfl rfl (r_call1 Try.call76 rfl) (c_order_copied_v0n 1 (col0 col) _ r_5 hr_6) ?_
    rintro _ w_9 ⟨col_11, rv_7, rfl, hg_10, rh_8⟩
    refine ⟨_, rfl, ?_⟩
    replace h1 := h1.gr hg_10
    replace hst := hst.grow hg_10
    cases hx_13 : r_5 with
    | none =>
      rw [hx_13] at hm rh_8
      replace hm := optC_none hm
      obtain rfl := optP_none rh_8
      clear rh_8
      refine lv (v := (.pointer none)) rfl rfl (r_assign rfl) ?_
      refine lnil ?_
      refine wseq ?_
      refine wregion ?_
      refine lv (v := (.slice a1 p1_points.length cap1)) rfl rfl (r_move rfl) ?_
      obtain ⟨r_16, hr_17, hm⟩ := bind_some hm
      refine lc rfl rfl (r_call1 Try.call80 rfl) (c_slices_Values_int_int col_11 _ a1 cap1 p1_points h1 r_16 hr_17) ?_
      rintro _ w_20 ⟨col_22, rv_18, rfl, hg_21, rh_19⟩
      refine ⟨_, rfl, ?_⟩
      replace h1 := h1.gr hg_21
      replace hst := hst.grow hg_21
      obtain ⟨r_23, hr_24, hm⟩ := bind_some hm
      refine lc rfl rfl (r_call1 Try.call55 rfl) (c_slices_Sorted_int 2 col_22 _ rv_18 r_16 rh_19 r_23 hr_24) ?_
      rintro _ w_28 ⟨col_30, ra_25, rc_26, rfl, hg_29, rh_27⟩
      refine ⟨_, rfl, ?_⟩
      replace rh_19 := rh_19.gr hg_29
      replace hst := hst.grow hg_29
      refine lv (v := (.slice ra_25 r_23.length rc_26)) rfl rfl (r_assign rfl) ?_
      refine lnil ?_
      refine wseq ?_
      refine wregion ?_
      refine lv (v := (.slice none (([] : List Int).length) 0)) rfl rfl (r_assign rfl) ?_
      refine lnil ?_
      refine wseq ?_
      refine wblock ?_
      refine wloop (fun n f w_32 => ∃ (col_33 : Col) (a_35 : Option Addr) (cap_36 : Nat) (left_34 : List Int) (a_39 : Option Addr) (cap_40 : Nat) (list_38 : List Int) (n_31 : Nat), n_31 = n ∧ m_order_by_v0n_v2f16_L1 N n_31 left_34 list_38 = some r ∧ St w0 (col0 col) col_33 w_32 ∧ Own (Rep.int .i64) 3 2 col_33 w_32 a_35 cap_36 left_34 ∧ Own (Rep.int .i64) 3 3 col_33 w_32 a_39 cap_40 list_38 ∧ f 10 = (.slice a_35 left_34.length cap_36) ∧ f 11 = (.slice a_39 list_38.length cap_40) ∧ f 2 = (.func (.func 16) #[] #[]) ∧ f 9 = (.pointer none) ∧ f 1000000 = (enc [])) N ⟨col_30, ra_25, rc_26, r_23, none, 0, ([] : List Int), N, rfl, hm, hst, rh_27, Own.nil, rfl, rfl, rfl, rfl, rfl⟩ ?_
      clear hm; intro n f w_32 hI
      obtain ⟨col_33, a_35, cap_36, left_34, a_39, cap_40, list_38, n_31, hn, hm, hst, h_37, h_41, hs10, hs11, hs2, hs9, hs1000000⟩ := hI
      subst hn
      refine .ld (d := 10) (v := (.slice a_35 left_34.length cap_36)) hs10 ?_
      refine .ld (d := 11) (v := (.slice a_39 list_38.length cap_40)) hs11 ?_
      refine .ld (d := 2) (v := (.func (.func 16) #[] #[])) hs2 ?_
      refine .ld (d := 9) (v := (.pointer none)) hs9 ?_
      refine .ld (d := 1000000) (v := (enc [])) hs1000000 ?_
      clear hs10 hs11 hs2 hs9 hs1000000
      cases n_31 with
      | zero => rw [m_order_by_v0n_v2f16_L1.eq_1] at hm; cases hm
      | succ n_31 =>
        rw [m_order_by_v0n_v2f16_L1.eq_2] at hm
        refine wseq ?_
        refine wseq ?_
        refine wregion ?_
        refine lv (v := (.slice a_35 left_34.length cap_36)) rfl rfl (r_move rfl) ?_
        refine lv (v := (.int .i64 (left_34.length : Int))) rfl rfl (r_len Try.underlying22 rfl) ?_
        refine lv (v := (.bool (decide (0 < (left_34.length : Int))))) rfl rfl (r_gtr (left_34.length : Int) 0 rfl rfl) ?_
        refine lnil ?_
        refine wcond (decide (0 < (left_34.length : Int))) rfl (fun hb => ?_) (fun hb => ?_)
        · rw [if_pos hb] at hm
          clear hb
          refine wskip ?_
          refine wblock ?_
          refine wseq ?_
          refine wregion ?_
          refine lv (v := (.func (.func 16) #[] #[])) rfl rfl (r_move rfl) ?_
          refine lv (v := (.pointer none)) rfl rfl (r_move rfl) ?_
          refine lv (v := (.slice a_35 left_34.length cap_36)) rfl rfl (r_move rfl) ?_
          obtain ⟨e_42, hj_43, hm⟩ := bind_some hm
          refine lv (v := (sptr a_35 (Int.toNat 0 * 1))) rfl rfl (r_idx Try.underlying22 Try.sizeOf3 rfl rfl (at?_some hj_43).1 (at?_some hj_43).2.1 (h_37.addr hj_43)) ?_
          refine lv (v := (.int .i64 e_42)) rfl rfl (r_ld Try.isAgg3 rfl (h_37.atInt hj_43)) ?_
          cases hm
        · rw [if_neg (by rw [hb]; decide)] at hm
          clear hb
          refine wexit (inB_hit ?_)
          refine wseq ?_
          refine wregion ?_
          refine lv (v := (.slice a_39 list_38.length cap_40)) rfl rfl (r_move rfl) ?_
          refine lv (v := (.slice a_39 list_38.length cap_40)) rfl rfl (r_assign rfl) ?_
          refine lv (v := (.int .i64 0)) rfl rfl (r_assign rfl) ?_
          refine lnil ?_
          refine wret ?_
          cases hm
          exact ⟨rfl, colF w0.heap.size col col_33 (fun n => bif Nat.beq n 3 then c1 else 0), a_39, cap_40, rfl, hst.fin (fun n => bif Nat.beq n 3 then c1 else 0), hst.finOwn (g := (fun n => bif Nat.beq n 3 then c1 else 0)) rfl h_41 (by decide) (by decide) rfl⟩
    | some t_12 =>
      rw [hx_13] at hm rh_8
      replace hm := optC_some hm
      obtain ⟨o_14, rfl, hG_15⟩ := optP_some rh_8
      refine lv (v := (.pointer (some ⟨o_14.g, 0, none⟩))) rfl rfl (r_assign rfl) ?_
      refine lnil ?_
      refine wseq ?_
      refine wregion ?_
      refine lv (v := (.slice a1 p1_points.length cap1)) rfl rfl (r_move rfl) ?_
      obtain ⟨r_44, hr_45, hm⟩ := bind_some hm
      refine lc rfl rfl (r_call1 Try.call80 rfl) (c_slices_Values_int_int col_11 _ a1 cap1 p1_points h1 r_44 hr_45) ?_
      rintro _ w_48 ⟨col_50, rv_46, rfl, hg_49, rh_47⟩
      refine ⟨_, rfl, ?_⟩
      replace hG_15 := hG_15.gr hg_49
      replace h1 := h1.gr hg_49
      replace hst := hst.grow hg_49
      obtain ⟨r_51, hr_52, hm⟩ := bind_some hm
      refine lc rfl rfl (r_call1 Try.call55 rfl) (c_slices_Sorted_int 4 col_50 _ rv_46 r_44 rh_47 r_51 hr_52) ?_
      rintro _ w_56 ⟨col_58, ra_53, rc_54, rfl, hg_57, rh_55⟩
      refine ⟨_, rfl, ?_⟩
      replace hG_15 := hG_15.gr hg_57
      replace rh_47 := rh_47.gr hg_57
      replace hst := hst.grow hg_57
      refine lv (v := (.slice ra_53 r_51.length rc_54)) rfl rfl (r_assign rfl) ?_
      refine lnil ?_
      refine wseq ?_
      refine wregion ?_
      refine lv (v := (.slice none (([] : List Int).length) 0)) rfl rfl (r_assign rfl) ?_
      refine lnil ?_
      refine wseq ?_
      refine wblock ?_
      refine wloop (fun n f w_60 => ∃ (col_61 : Col) (a_63 : Option Addr) (cap_64 : Nat) (left_62 : List Int) (a_67 : Option Addr) (cap_68 : Nat) (list_66 : List Int) (h_70 : List (List Bool)) (n_59 : Nat), n_59 = n ∧ m_order_by_v0n_v2f16_L2 N n_59 left_62 list_66 h_70 = some r ∧ St w0 (col0 col) col_61 w_60 ∧ Own (Rep.int .i64) 3 4 col_61 w_60 a_63 cap_64 left_62 ∧ Own (Rep.int .i64) 3 5 col_61 w_60 a_67 cap_68 list_66 ∧ GO 85 86 1 col_61 w_60 o_14 h_70 ∧ f 10 = (.slice a_63 left_62.length cap_64) ∧ f 11 = (.slice a_67 list_66.length cap_68) ∧ f 2 = (.func (.func 16) #[] #[]) ∧ f 9 = (.pointer (some ⟨o_14.g, 0, none⟩)) ∧ f 1000000 = (enc [])) N ⟨col_58, ra_53, rc_54, r_51, none, 0, ([] : List Int), t_12, N, rfl, hm, hst, rh_55, Own.nil, hG_15, rfl, rfl, rfl, rfl, rfl⟩ ?_
      clear hm; intro n f w_60 hI
      obtain ⟨col_61, a_63, cap_64, left_62, a_67, cap_68, list_66, h_70, n_59, hn, hm, hst, h_65, h_69, h_71, hs10, hs11, hs2, hs9, hs1000000⟩ := hI
      subst hn
      refine .ld (d := 10) (v := (.slice a_63 left_62.length cap_64)) hs10 ?_
      refine .ld (d := 11) (v := (.slice a_67 list_66.length cap_68)) hs11 ?_
      refine .ld (d := 2) (v := (.func (.func 16) #[] #[])) hs2 ?_
      refine .ld (d := 9) (v := (.pointer (some ⟨o_14.g, 0, none⟩))) hs9 ?_
      refine .ld (d := 1000000) (v := (enc [])) hs1000000 ?_
      clear hs10 hs11 hs2 hs9 hs1000000
      cases n_59 with
      | zero => rw [m_order_by_v0n_v2f16_L2.eq_1] at hm; cases hm
      | succ n_59 =>
        rw [m_order_by_v0n_v2f16_L2.eq_2] at hm
        refine wseq ?_
        refine wseq ?_
        refine wregion ?_
        refine lv (v := (.slice a_63 left_62.length cap_64)) rfl rfl (r_move rfl) ?_
        refine lv (v := (.int .i64 (left_62.length : Int))) rfl rfl (r_len Try.underlying22 rfl) ?_
        refine lv (v := (.bool (decide (0 < (left_62.length : Int))))) rfl rfl (r_gtr (left_62.length : Int) 0 rfl rfl) ?_
        refine lnil ?_
        refine wcond (decide (0 < (left_62.length : Int))) rfl (fun hb => ?_) (fun hb => ?_)
        · rw [if_pos hb] at hm
          clear hb
          refine wskip ?_
          refine wblock ?_
          refine wseq ?_
          refine wregion ?_
          refine lv (v := (.func (.func 16) #[] #[])) rfl rfl (r_move rfl) ?_
          refine lv (v := (.pointer (some ⟨o_14.g, 0, none⟩))) rfl rfl (r_move rfl) ?_
          refine lv (v := (.slice a_63 left_62.length cap_64)) rfl rfl (r_move rfl) ?_
          obtain ⟨e_72, hj_73, hm⟩ := bind_some hm
          refine lv (v := (sptr a_63 (Int.toNat 0 * 1))) rfl rfl (r_idx Try.underlying22 Try.sizeOf3 rfl rfl (at?_some hj_73).1 (at?_some hj_73).2.1 (h_65.addr hj_73)) ?_
          refine lv (v := (.int .i64 e_72)) rfl rfl (r_ld Try.isAgg3 rfl (h_65.atInt hj_73)) ?_
          obtain ⟨r_74, hr_75, hm⟩ := bind_some hm
          refine lc rfl rfl (r_callv2 Try.call16 rfl rfl rfl) (c_graph_Graph_Fill col_61 _ 1 (by decide) o_14 h_70 e_72 h_71 r_74 hr_75) ?_
          rintro _ w_76 ⟨rfl, hg_77⟩
          refine ⟨_, rfl, ?_⟩
          replace hg_77 : Grow col_61 w_60 col_61 w_76 := .of_below hg_77
          replace h_65 := h_65.gr hg_77
          replace h_69 := h_69.gr hg_77
          replace h_71 := h_71.gr hg_77
          replace hst := hst.grow hg_77
          refine lv (v := (.int .i64 0)) rfl rfl (r_assign rfl) ?_
          refine lv (v := (.int .i64 r_74)) rfl rfl (r_assign rfl) ?_
          refine lnil ?_
          refine wseq ?_
          refine wseq ?_
          refine wregion ?_
          refine lv (v := (.slice a_63 left_62.length cap_64)) rfl rfl (r_move rfl) ?_
          obtain ⟨hb_78, hm⟩ := chk_some hm
          have h_81 := (h_65.que (NB.int (k := .i64))).drop (sz := 1) rfl (Int.toNat 1)
          refine lv (v := .slice (if cap_64 = (Int.toNat 1) then a_63 else a_63.map (·.add ((Int.toNat 1) * 1))) (left_62.length - (Int.toNat 1)) (cap_64 - (Int.toNat 1))) rfl rfl (r_sliceL Try.underlying22 Try.sizeOf3 rfl rfl hb_78.1 hb_78.2) ?_
          generalize (if cap_64 = (Int.toNat 1) then a_63 else a_63.map (·.add ((Int.toNat 1) * 1))) = a_79 at *
          refine .ld (d := 38) (v := (.slice a_79 ((left_62.drop (Int.toNat 1)).length) (cap_64 - (Int.toNat 1)))) (congrArg (fun n => Value.slice a_79 n (cap_64 - (Int.toNat 1))) (List.length_drop (i := (Int.toNat 1)) (l := left_62)).symm) ?_
          refine lv (v := (.int .i64 ((left_62.drop (Int.toNat 1)).length : Int))) rfl rfl (r_len Try.underlying22 rfl) ?_
          refine lv (v := (.int .i64 0)) rfl rfl (r_move rfl) ?_
          refine lnil ?_
          refine wblock ?_
          refine wloop (fun n f w_84 => ∃ (col_85 : Col) (best_86 : Int) (least_87 : Int) (k_82 : Nat) (h_88 : List (List Bool)) (l_83 : List Int), n = l_83.length ∧ (left_62.drop (Int.toNat 1)).drop k_82 = l_83 ∧ m_order_by_v0n_v2f16_L3 N left_62 list_66 (m_order_by_v0n_v2f16_L2 N n_59) l_83 k_82 best_86 least_87 h_88 = some r ∧ St w0 (col0 col) col_85 w_84 ∧ Own (Rep.int .i64) 3 4 col_85 w_84 a_63 cap_64 left_62 ∧ Own (Rep.int .i64) 3 5 col_85 w_84 a_67 cap_68 list_66 ∧ Que (Rep.int .i64) 3 4 col_85 w_84 a_79 (cap_64 - (Int.toNat 1)) (left_62.drop (Int.toNat 1)) ∧ GO 85 86 1 col_85 w_84 o_14 h_88 ∧ f 40 = (.int .i64 (k_82 : Int)) ∧ f 10 = (.slice a_63 left_62.length cap_64) ∧ f 11 = (.slice a_67 list_66.length cap_68) ∧ f 12 = (.int .i64 best_86) ∧ f 13 = (.int .i64 least_87) ∧ f 2 = (.func (.func 16) #[] #[]) ∧ f 38 = (.slice a_79 ((left_62.drop (Int.toNat 1)).length) (cap_64 - (Int.toNat 1))) ∧ f 39 = (.int .i64 ((left_62.drop (Int.toNat 1)).length : Int)) ∧ f 9 = (.pointer (some ⟨o_14.g, 0, none⟩)) ∧ f 1000000 = (enc [])) (left_62.drop (Int.toNat 1)).length ⟨col_61, 0, r_74, 0, h_70, (left_62.drop (Int.toNat 1)), rfl, rfl, hm, hst, h_65, h_69, h_81, h_71, rfl, rfl, rfl, rfl, rfl, rfl, rfl, rfl, rfl, rfl⟩ ?_
          clear hm; intro n f w_84 hI
          obtain ⟨col_85, best_86, least_87, k_82, h_88, l_83, hn, hl, hm, hst, h_65, h_69, h_81, h_89, hs40, hs10, hs11, hs12, hs13, hs2, hs38, hs39, hs9, hs1000000⟩ := hI
          subst hn
          refine .ld (d := 40) (v := (.int .i64 (k_82 : Int))) hs40 ?_
          refine .ld (d := 10) (v := (.slice a_63 left_62.length cap_64)) hs10 ?_
          refine .ld (d := 11) (v := (.slice a_67 list_66.length cap_68)) hs11 ?_
          refine .ld (d := 12) (v := (.int .i64 best_86)) hs12 ?_
          refine .ld (d := 13) (v := (.int .i64 least_87)) hs13 ?_
          refine .ld (d := 2) (v := (.func (.func 16) #[] #[])) hs2 ?_
          refine .ld (d := 38) (v := (.slice a_79 ((left_62.drop (Int.toNat 1)).length) (cap_64 - (Int.toNat 1)))) hs38 ?_
          refine .ld (d := 39) (v := (.int .i64 ((left_62.drop (Int.toNat 1)).length : Int))) hs39 ?_
          refine .ld (d := 9) (v := (.pointer (some ⟨o_14.g, 0, none⟩))) hs9 ?_
          refine .ld (d := 1000000) (v := (enc [])) hs1000000 ?_
          clear hs40 hs10 hs11 hs12 hs13 hs2 hs38 hs39 hs9 hs1000000
          cases l_83 with
          | nil =>
            have hk : ¬ ((k_82 : Int) < ((left_62.drop (Int.toNat 1)).length : Int)) := by have := List.drop_eq_nil_iff.1 hl; omega
            have hkb := decide_eq_false hk
            rw [m_order_by_v0n_v2f16_L3.eq_1] at hm
            refine wseq ?_
            refine wregion ?_
            refine lv (v := (.bool (decide ((k_82 : Int) < ((left_62.drop (Int.toNat 1)).length : Int))))) rfl rfl (r_lss (k_82 : Int) ((left_62.drop (Int.toNat 1)).length : Int) rfl rfl) ?_
            refine lnil ?_
            refine wseq ?_
            refine wcondF (congrArg Value.bool hkb) ?_
            refine wexit (inB_hit ?_)
            refine wseq ?_
            refine wregion ?_
            refine lv (v := (.slice a_67 list_66.length cap_68)) rfl rfl (r_move rfl) ?_
            refine lv (v := (.slice a_63 left_62.length cap_64)) rfl rfl (r_move rfl) ?_
            refine lv (v := (.int .i64 best_86)) rfl rfl (r_move rfl) ?_
            obtain ⟨e_92, hj_93, hm⟩ := bind_some hm
            refine lv (v := (sptr a_63 (Int.toNat best_86 * 1))) rfl rfl (r_idx Try.underlying22 Try.sizeOf3 rfl rfl (at?_some hj_93).1 (at?_some hj_93).2.1 (h_65.addr hj_93)) ?_
            refine lv (v := (.int .i64 e_92)) rfl rfl (r_ld Try.isAgg3 rfl (h_65.atInt hj_93)) ?_
            refine l_lit (col := col_85) (r := (Rep.int .i64)) (xs := [e_92]) [(.int .i64 e_92)] 6 rfl Try.underlying22 el3_71V0NV2F16 rfl rfl rfl rfl rfl rfl (by intro v hv; simp only [List.mem_cons, List.not_mem_nil, or_false] at hv; subst hv; rfl) (RowsH.ofF (Rows.consF (r := (Rep.int .i64)) (x := e_92) (cs := [(.int .i64 e_92)]) (rd_int .i64 e_92) Rows.nil0)) ?_
            intro a_94 w_95 col_96 hg_97 h_98
            replace h_65 := h_65.gr hg_97
            replace h_89 := h_89.gr hg_97
            replace h_69 := h_69.gr hg_97
            replace hst := hst.grow hg_97
            obtain ⟨hb_99, hm⟩ := chk_some hm
            refine l_appendM (col := col_96) (w := w_95) (r := (Rep.int .i64)) (c := 5) (c2 := 5) (xs := list_66) (ys := [e_92]) h_69 (h_98.srcN (NB.int (k := .i64))) rfl Try.underlying22 el3_71V0NV2F16 rfl rfl rfl hb_99.1 hb_99.2 (by decide) ?_
            intro a_100 cap_101 w_102 col_103 hk_104 h_105
            replace h_65 := h_65.kpp hk_104 rfl rfl
            replace h_89 := h_89.kpp hk_104 rfl rfl
            replace h_98 := h_98.kpp hk_104 rfl rfl
            replace hst := hst.kpp hk_104 rfl rfl
            clear h_69
            refine lv (v := (.slice a_100 ((list_66 ++ [e_92]).length) cap_101)) rfl rfl (r_assign rfl) ?_
            refine lnil ?_
            refine wseq ?_
            refine wregion ?_
            refine lv (v := (.pointer (some ⟨o_14.g, 0, none⟩))) rfl rfl (r_move rfl) ?_
            refine lv (v := (.slice a_63 left_62.length cap_64)) rfl rfl (r_move rfl) ?_
            refine lv (v := (.int .i64 best_86)) rfl rfl (r_move rfl) ?_
            refine lv (v := (sptr a_63 (Int.toNat best_86 * 1))) rfl rfl (r_idx Try.underlying22 Try.sizeOf3 rfl rfl (at?_some hj_93).1 (at?_some hj_93).2.1 (h_65.addr hj_93)) ?_
            refine lv (v := (.int .i64 e_92)) rfl rfl (r_ld Try.isAgg3 rfl (h_65.atInt hj_93)) ?_
            obtain ⟨r_106, hr_107, hm⟩ := bind_some hm
            refine lc rfl rfl (r_call2 Try.call17 rfl rfl) (c_graph_Graph_Remove N 7 8 col_103 _ 1 rfl o_14 h_88 e_92 h_89 r_106 hr_107) ?_
            rintro _ w_115 ⟨col_117, ra_108, rc_109, ra_111, rc_112, rfl, hg_116, rh_110, rh_113, oh_114⟩
            refine ⟨_, rfl, ?_⟩
            replace h_65 := h_65.kpp hg_116 rfl rfl
            replace h_105 := h_105.kpp hg_116 rfl rfl
            replace hst := hst.kpp hg_116 rfl rfl
            clear h_89
            refine lnil ?_
            refine wregion ?_
            refine lv (v := (.slice a_63 left_62.length cap_64)) rfl rfl (r_move rfl) ?_
            refine lv (v := (.int .i64 best_86)) rfl rfl (r_move rfl) ?_
            refine lv (v := (.int .i64 best_86)) rfl rfl (r_move rfl) ?_
            refine lv (v := (.int .i64 (IntKind.i64.wrap (best_86 + 1)))) rfl rfl (r_add best_86 1 rfl rfl) ?_
            obtain ⟨r_118, hr_119, hm⟩ := bind_some hm
            refine lc rfl rfl (r_call3 Try.call104 rfl rfl rfl) (c_delete 4 (by decide) col_117 _ a_63 cap_64 left_62 best_86 (IntKind.i64.wrap (best_86 + 1)) h_65 r_118 hr_119) ?_
            rintro _ w_120 ⟨col_121, a_122, cap_123, rfl, hk_124, h_125⟩
            refine ⟨_, rfl, ?_⟩
            replace oh_114 := oh_114.kpp hk_124 rfl rfl
            replace h_105 := h_105.kpp hk_124 rfl rfl
            replace hst := hst.kpp hk_124 rfl rfl
            clear h_65
            refine lv (v := (.slice a_122 r_118.length cap_123)) rfl rfl (r_assign rfl) ?_
            refine lnil ?_
            exact ⟨n_59, by omega, ⟨col_121, a_122, cap_123, r_118, a_100, cap_101, (list_66 ++ [e_92]), r_106.2.2, n_59, rfl, hm, hst, h_125, h_105, oh_114, rfl, rfl, rfl, rfl, rfl⟩⟩
          | cons x_90 l_91 =>
            obtain ⟨hat, hl2, hlt⟩ := drop_get hl
            have hk : (k_82 : Int) < ((left_62.drop (Int.toNat 1)).length : Int) := by omega
            have hkb := decide_eq_true hk
            rw [m_order_by_v0n_v2f16_L3.eq_2] at hm
            refine wseq ?_
            refine wregion ?_
            refine lv (v := (.bool (decide ((k_82 : Int) < ((left_62.drop (Int.toNat 1)).length : Int))))) rfl rfl (r_lss (k_82 : Int) ((left_62.drop (Int.toNat 1)).length : Int) rfl rfl) ?_
            refine lnil ?_
            refine wseq ?_
            refine wcondT (congrArg Value.bool hkb) ?_
            refine wskip ?_
            refine wseq ?_
            refine Wp.cut (fun f w_126 => ∃ (col_127 : Col) (best_128 : Int) (least_129 : Int) (h_130 : List (List Bool)), m_order_by_v0n_v2f16_J1 k_82 (m_order_by_v0n_v2f16_L3 N left_62 list_66 (m_order_by_v0n_v2f16_L2 N n_59) l_91) best_128 least_129 h_130 = some r ∧ St w0 (col0 col) col_127 w_126 ∧ Own (Rep.int .i64) 3 4 col_127 w_126 a_63 cap_64 left_62 ∧ Own (Rep.int .i64) 3 5 col_127 w_126 a_67 cap_68 list_66 ∧ Que (Rep.int .i64) 3 4 col_127 w_126 a_79 (cap_64 - (Int.toNat 1)) (left_62.drop (Int.toNat 1)) ∧ GO 85 86 1 col_127 w_126 o_14 h_130 ∧ f 10 = (.slice a_63 left_62.length cap_64) ∧ f 11 = (.slice a_67 list_66.length cap_68) ∧ f 12 = (.int .i64 best_128) ∧ f 13 = (.int .i64 least_129) ∧ f 2 = (.func (.func 16) #[] #[]) ∧ f 38 = (.slice a_79 ((left_62.drop (Int.toNat 1)).length) (cap_64 - (Int.toNat 1))) ∧ f 39 = (.int .i64 ((left_62.drop (Int.toNat 1)).length : Int)) ∧ f 40 = (.int .i64 (k_82 : Int)) ∧ f 9 = (.pointer (some ⟨o_14.g, 0, none⟩)) ∧ f 1000000 = (enc [])) ?_ ?_
            · intro f w_126 hJ
              obtain ⟨col_127, best_128, least_129, h_130, hm, hst, h_65, h_69, h_81, h_131, hs10, hs11, hs12, hs13, hs2, hs38, hs39, hs40, hs9, hs1000000⟩ := hJ
              rw [m_order_by_v0n_v2f16_J1.eq_1] at hm
              refine .ld (d := 10) (v := (.slice a_63 left_62.length cap_64)) hs10 ?_
              refine .ld (d := 11) (v := (.slice a_67 list_66.length cap_68)) hs11 ?_
              refine .ld (d := 12) (v := (.int .i64 best_128)) hs12 ?_
              refine .ld (d := 13) (v := (.int .i64 least_129)) hs13 ?_
              refine .ld (d := 2) (v := (.func (.func 16) #[] #[])) hs2 ?_
              refine .ld (d := 38) (v := (.slice a_79 ((left_62.drop (Int.toNat 1)).length) (cap_64 - (Int.toNat 1)))) hs38 ?_
              refine .ld (d := 39) (v := (.int .i64 ((left_62.drop (Int.toNat 1)).length : Int))) hs39 ?_
              refine .ld (d := 40) (v := (.int .i64 (k_82 : Int))) hs40 ?_
              refine .ld (d := 9) (v := (.pointer (some ⟨o_14.g, 0, none⟩))) hs9 ?_
              refine .ld (d := 1000000) (v := (enc [])) hs1000000 ?_
              clear hs10 hs11 hs12 hs13 hs2 hs38 hs39 hs40 hs9 hs1000000
              refine wregion ?_
              refine lv (v := (.int .i64 (IntKind.i64.wrap ((k_82 : Int) + 1)))) rfl rfl (r_add (k_82 : Int) 1 rfl rfl) ?_
              refine lv (v := (.int .i64 (IntKind.i64.wrap ((k_82 : Int) + 1)))) rfl rfl (r_move rfl) ?_
              refine lnil ?_
              exact ⟨l_91.length, by simp, ⟨col_127, best_128, least_129, (k_82 + 1), h_130, l_91, rfl, hl2, hm, hst, h_65, h_69, h_81, h_131, (congrArg (Value.int .i64) (wrap_succ (Nat.lt_of_lt_of_le hlt h_81.len))), rfl, rfl, rfl, rfl, rfl, rfl, rfl, rfl, rfl⟩⟩
            · refine wblock ?_
              refine wseq ?_
              refine wregion ?_
              refine lv (v := (.int .i64 (k_82 : Int))) rfl rfl (r_move rfl) ?_
              refine lv (v := (sptr a_79 (Int.toNat (k_82 : Int) * 1))) rfl rfl (r_idx Try.underlying22 Try.sizeOf3 rfl rfl (at?_some hat).1 (at?_some hat).2.1 (h_81.addr hat)) ?_
              refine lv (v := (.int .i64 x_90)) rfl rfl (r_ld Try.isAgg3 rfl (h_81.atInt hat)) ?_
              refine lv (v := (.int .i64 (k_82 : Int))) rfl rfl (r_assign rfl) ?_
              refine lv (v := (.int .i64 x_90)) rfl rfl (r_assign rfl) ?_
              refine lnil ?_
              refine wseq ?_
              refine wregion ?_
              refine lv (v := (.func (.func 16) #[] #[])) rfl rfl (r_move rfl) ?_
              refine lv (v := (.pointer (some ⟨o_14.g, 0, none⟩))) rfl rfl (r_move rfl) ?_
              refine lv (v := (.int .i64 x_90)) rfl rfl (r_move rfl) ?_
              obtain ⟨r_132, hr_133, hm⟩ := bind_some hm
              refine lc rfl rfl (r_callv2 Try.call16 rfl rfl rfl) (c_graph_Graph_Fill col_85 _ 1 (by decide) o_14 h_88 x_90 h_89 r_132 hr_133) ?_
              rintro _ w_134 ⟨rfl, hg_135⟩
              refine ⟨_, rfl, ?_⟩
              replace hg_135 : Grow col_85 w_84 col_85 w_134 := .of_below hg_135
              replace h_65 := h_65.gr hg_135
              replace h_69 := h_69.gr hg_135
              replace h_81 := h_81.gr hg_135
              replace h_89 := h_89.gr hg_135
              replace hst := hst.grow hg_135
              refine lv (v := (.int .i64 r_132)) rfl rfl (r_assign rfl) ?_
              refine lnil ?_
              refine wseq ?_
              refine wregion ?_
              refine lv (v := (.int .i64 r_132)) rfl rfl (r_move rfl) ?_
              refine lv (v := (.int .i64 least_87)) rfl rfl (r_move rfl) ?_
              refine lv (v := (.bool (decide (r_132 < least_87)))) rfl rfl (r_lss r_132 least_87 rfl rfl) ?_
              refine lnil ?_
              refine wcond (decide (r_132 < least_87)) rfl (fun hb => ?_) (fun hb => ?_)
              · rw [if_pos hb] at hm
                clear hb
                refine wregion ?_
                refine lv (v := (.int .i64 (k_82 : Int))) rfl rfl (r_move rfl) ?_
                refine lv (v := (.int .i64 (IntKind.i64.wrap ((k_82 : Int) + 1)))) rfl rfl (r_add (k_82 : Int) 1 rfl rfl) ?_
                refine lv (v := (.int .i64 r_132)) rfl rfl (r_move rfl) ?_
                refine lv (v := (.int .i64 (IntKind.i64.wrap ((k_82 : Int) + 1)))) rfl rfl (r_assign rfl) ?_
                refine lv (v := (.int .i64 r_132)) rfl rfl (r_assign rfl) ?_
                refine lnil ?_
                exact ⟨col_85, (IntKind.i64.wrap ((k_82 : Int) + 1)), r_132, h_88, hm, hst, h_65, h_69, h_81, h_89, rfl, rfl, rfl, rfl, rfl, rfl, rfl, rfl, rfl, rfl⟩
              · rw [if_neg (by rw [hb]; decide)] at hm
                clear hb
                refine wskip ?_
                exact ⟨col_85, best_86, least_87, h_88, hm, hst, h_65, h_69, h_81, h_89, rfl, rfl, rfl, rfl, rfl, rfl, rfl, rfl, rfl, rfl⟩
        · rw [if_neg (by rw [hb]; decide)] at hm
          clear hb
          refine wexit (inB_hit ?_)
          refine wseq ?_
          refine wregion ?_
          refine lv (v := (.slice a_67 list_66.length cap_68)) rfl rfl (r_move rfl) ?_
          refine lv (v := (.slice a_67 list_66.length cap_68)) rfl rfl (r_assign rfl) ?_
          refine lv (v := (.int .i64 0)) rfl rfl (r_assign rfl) ?_
          refine lnil ?_
          refine wret ?_
          cases hm
          exact ⟨rfl, colF w0.heap.size col col_61 (fun n => bif Nat.beq n 5 then c1 else 0), a_67, cap_68, rfl, hst.fin (fun n => bif Nat.beq n 5 then c1 else 0), hst.finOwn (g := (fun n => bif Nat.beq n 5 then c1 else 0)) rfl h_69 (by decide) (by decide) rfl⟩




def m_order_Fill_v0n (N : Nat) (p1_points : (List Int)) : Option ((List Int) × Int) :=
  (m_order_by_v0n_v2f16 N p1_points).bind fun r_1 => some (r_1.1, r_1.2)

set_option maxRecDepth 100000 in
set_option maxHeartbeats 2000000 in
theorem c_order_Fill_v0n (N : Nat) (c1 : Nat) (col : Col) (w0 : World) (a1 : Option Addr) (cap1 : Nat) (p1_points : (List Int)) (h1 : Sl (Rep.int .i64) col w0 a1 cap1 p1_points) (r : ((List Int) × Int)) (hm : m_order_Fill_v0n N p1_points = some r) :
    Calls Try.prog 32 #[(.pointer none), (.slice a1 p1_points.length cap1)] w0 (fun e w' => ∃ (col' : Col) (ra1 : Option Addr) (rc2 : Nat), e = .returned (.tuple #[(.slice ra1 r.1.length rc2), (.int .i64 r.2)]) ∧ Grow col w0 col' w' ∧ Own (Rep.int .i64) 3 c1 col' w' ra1 rc2 r.1) := by
  refine calls_of2 4 5 (m := 11) (args := [(.pointer none), (.slice a1 p1_points.length cap1)]) Try.func32 rfl rfl rfl rfl rfl ?_
  rw [m_order_Fill_v0n.eq_1] at hm
  have hst := St.start col w0
  replace h1 := h1.keep (Stay.start col w0)
  refine wseq ?_
  refine wregion ?_
  refine lv (v := (.slice none (([] : List Int).length) 0)) rfl rfl (r_assign rfl) ?_
  refine lv (v := (.int .i64 0)) rfl rfl (r_assign rfl) ?_
  refine lnil ?_
  refine wseq ?_
  refine wregion ?_
  refine lv (v := (.pointer none)) rfl rfl (r_move rfl) ?_
  refine lv (v := (.slice a1 p1_points.length cap1)) rfl rfl (r_move rfl) ?_
  obtain ⟨r_1, hr_2, hm⟩ := bind_some hm
  refine lc rfl rfl (r_call3 Try.call71 rfl rfl rfl) (c_order_by_v0n_v2f16 N 1 (col0 col) _ a1 cap1 p1_points h1 r_1 hr_2) ?_
  rintro _ w_6 ⟨col_8, ra_3, rc_4, rfl, hg_7, rh_5⟩
  refine ⟨_, rfl, ?_⟩
  replace h1 := h1.gr hg_7
  replace hst := hst.grow hg_7
  refine lv (v := (.slice ra_3 r_1.1.length rc_4)) rfl rfl (r_extract rfl rfl) ?_
  refine lv (v := (.int .i64 r_1.2)) rfl rfl (r_extract rfl rfl) ?_
  refine lv (v := (.slice ra_3 r_1.1.length rc_4)) rfl rfl (r_assign rfl) ?_
  refine lv (v := (.int .i64 r_1.2)) rfl rfl (r_assign rfl) ?_
  refine lnil ?_
  refine wret ?_
  cases hm
  exact ⟨rfl, colF w0.heap.size col col_8 (fun n => bif Nat.beq n 1 then c1 else 0), ra_3, rc_4, rfl, hst.fin (fun n => bif Nat.beq n 1 then c1 else 0), hst.finOwn (g := (fun n => bif Nat.beq n 1 then c1 else 0)) rfl rh_5 (by decide) (by decide) rfl⟩




def m_order_Degree_1_v0n (p1_a : Int) : Option Int :=
  none

set_option maxRecDepth 100000 in
set_option maxHeartbeats 2000000 in
theorem c_order_Degree_1_v0n (col : Col) (w0 : World) (p1_a : Int) (r : Int) (hm : m_order_Degree_1_v0n p1_a = some r) :
    Calls Try.prog 72 #[(.pointer none), (.int .i64 p1_a)] w0 (fun e w' => e = .returned ((.int .i64 r)) ∧ Below w0.heap.size w0 w') := by
  refine calls_of1 4 (m := 9) (args := [(.pointer none), (.int .i64 p1_a)]) Try.func72 rfl rfl rfl rfl rfl ?_
  rw [m_order_Degree_1_v0n.eq_1] at hm
  have hst := St.start col w0
  refine wseq ?_
  refine wregion ?_
  refine lv (v := (.int .i64 0)) rfl rfl (r_assign rfl) ?_
  refine lnil ?_
  refine wseq ?_
  refine wregion ?_
  refine lv (v := (.pointer none)) rfl rfl (r_move rfl) ?_
  refine lv (v := (.int .i64 p1_a)) rfl rfl (r_move rfl) ?_
  cases hm




def m_order_Degree_1 (p0_h : List (List Bool)) (p1_a : Int) : Option Int :=
  (m_graph_Graph_Near p0_h p1_a).bind fun r_1 => some (r_1.length : Int)

set_option maxRecDepth 100000 in
set_option maxHeartbeats 2000000 in
theorem c_order_Degree_1 (col : Col) (w0 : World) (qc0 : Nat) (hqqc0 : qc0 ≠ 0) (o0 : GObj) (p0_h : List (List Bool)) (p1_a : Int) (h0 : GO 85 86 qc0 col w0 o0 p0_h) (r : Int) (hm : m_order_Degree_1 p0_h p1_a = some r) :
    Calls Try.prog 72 #[(.pointer (some ⟨o0.g, 0, none⟩)), (.int .i64 p1_a)] w0 (fun e w' => e = .returned ((.int .i64 r)) ∧ Below w0.heap.size w0 w') := by
  refine calls_of1 4 (m := 9) (args := [(.pointer (some ⟨o0.g, 0, none⟩)), (.int .i64 p1_a)]) Try.func72 rfl rfl rfl rfl rfl ?_
  rw [m_order_Degree_1.eq_1] at hm
  have hst := St.start col w0
  replace h0 := h0.start0 hqqc0
  refine wseq ?_
  refine wregion ?_
  refine lv (v := (.int .i64 0)) rfl rfl (r_assign rfl) ?_
  refine lnil ?_
  refine wseq ?_
  refine wregion ?_
  refine lv (v := (.pointer (some ⟨o0.g, 0, none⟩))) rfl rfl (r_move rfl) ?_
  refine lv (v := (.int .i64 p1_a)) rfl rfl (r_move rfl) ?_
  obtain ⟨r_1, hr_2, hm⟩ := bind_some hm
  refine lc rfl rfl (r_call2 Try.call22 rfl rfl) (c_graph_Graph_Near 1 (col0 col) _ 999 (by decide) o0 p0_h p1_a h0 r_1 hr_2) ?_
  rintro _ w_6 ⟨col_8, ra_3, rc_4, rfl, hg_7, rh_5⟩
  refine ⟨_, rfl, ?_⟩
  replace h0 := h0.gr hg_7
  replace hst := hst.grow hg_7
  refine lv (v := (.int .i64 (r_1.length : Int))) rfl rfl (r_len Try.underlying22 rfl) ?_
  refine lv (v := (.int .i64 (r_1.length : Int))) rfl rfl (r_assign rfl) ?_
  refine lnil ?_
  refine wret ?_
  cases hm
  exact ⟨rfl, rfl, hst.below⟩


end Go.Proofs.Ytgkofjmeopbkbaa
