/-
  What functions of the program compute, as plain Lean functions (m_..), and proofs that they compute it (c_..). Printed by a program of the author; no conditions.
-/
import Derived.Test.YtgkofjmeopbkbaaOrderCliquesBFloat
import Derived.Test.YtgkofjmeopbkbaaProg
import Derived.Test.YtgkofjmeopbkbaaOrderCliquesBCompact
import Derived.Test.YtgkofjmeopbkbaaOrderCliquesBGraph
import Derived.Test.YtgkofjmeopbkbaaOrderCliquesBKeys
import Derived.Test.YtgkofjmeopbkbaaOrderCliquesBLibSort
import Derived.Test.YtgkofjmeopbkbaaShelf
set_option linter.unusedVariables false
namespace Go.Proofs.Ytgkofjmeopbkbaa
open Go Go.RowKit


theorem w64 {x : Int} (h : -9223372036854775808 ≤ x ∧ x ≤ 9223372036854775807) : IntKind.i64.wrap x = x := by rw [IntKind.wrap_i64]; omega
theorem chk_pos {α : Type} {c : Prop} [Decidable c] {x : Option α} (h : c) : chk c x = x := if_pos h
theorem at?_lt {α : Type} {xs : List α} {k : Nat} (h : k < xs.length) : at? xs (k : Int) = some xs[k] := by rw [at?_nat]; exact List.getElem?_eq_getElem h
theorem wS {k : Nat} (h : k < 9223372036854775807) : IntKind.i64.wrap ((k : Int) + 1) = ((k + 1 : Nat) : Int) := by rw [w64 (by omega)]; rfl
theorem nodup_le {α : Type} [DecidableEq α] : ∀ {l r : List α}, l.Nodup → (∀ x ∈ l, x ∈ r) → l.length ≤ r.length
  | [], _, _, _ => Nat.zero_le _
  | x :: l, r, h, hs => by
    have h1 := List.nodup_cons.1 h
    have hx := hs x List.mem_cons_self
    have h2 := nodup_le (r := r.erase x) h1.2 fun y hy => (List.mem_erase_of_ne (fun e => h1.1 (by rw [← e]; exact hy))).2 (hs y (List.mem_cons_of_mem _ hy))
    rw [List.length_erase_of_mem hx] at h2
    have := List.length_pos_of_mem hx
    rw [List.length_cons]; omega

section
variable {K V : Type} [DecidableEq K]
end



def m_l18_pick_J1 (k_4 : Int) : Option Int :=
  some k_4

def m_l18_pick (p0_i : Int) (p1_n : Int) : Option Int :=
  chk (p1_n ≠ 0) (if (decide ((Int.tmod p0_i p1_n) < 0)) = true then (m_l18_pick_J1 (IntKind.i64.wrap ((Int.tmod p0_i p1_n) + p1_n))) else (m_l18_pick_J1 (Int.tmod p0_i p1_n)))

set_option maxRecDepth 100000 in
set_option maxHeartbeats 2000000 in
theorem c_l18_pick (col : Col) (w0 : World) (p0_i : Int) (p1_n : Int) (r : Int) (hm : m_l18_pick p0_i p1_n = some r) :
    Calls Try.prog 48 #[(.int .i64 p0_i), (.int .i64 p1_n)] w0 (fun e w' => e = .returned ((.int .i64 r)) ∧ Below w0.heap.size w0 w') := by
  refine calls_of1 4 (m := 15) (args := [(.int .i64 p0_i), (.int .i64 p1_n)]) Try.func48 rfl rfl rfl rfl rfl ?_
  rw [m_l18_pick.eq_1] at hm
  have hst := St.start col w0
  refine wseq ?_
  refine wregion ?_
  refine lv (v := (.int .i64 0)) rfl rfl (r_assign rfl) ?_
  refine lnil ?_
  refine wseq ?_
  refine wregion ?_
  refine lv (v := (.int .i64 p0_i)) rfl rfl (r_move rfl) ?_
  refine lv (v := (.int .i64 p1_n)) rfl rfl (r_move rfl) ?_
  obtain ⟨h0_1, hm⟩ := chk_some hm
  refine lv (v := (.int .i64 (Int.tmod p0_i p1_n))) rfl rfl (r_rem p0_i p1_n rfl rfl h0_1) ?_
  refine lv (v := (.int .i64 (Int.tmod p0_i p1_n))) rfl rfl (r_assign rfl) ?_
  refine lnil ?_
  refine wseq ?_
  refine Wp.cut (fun f w_2 => ∃ (col_3 : Col) (k_4 : Int), m_l18_pick_J1 k_4 = some r ∧ St w0 (col0 col) col_3 w_2 ∧ f 5 = (.int .i64 k_4) ∧ f 1000000 = (enc [])) ?_ ?_
  · intro f w_2 hJ
    obtain ⟨col_3, k_4, hm, hst, hs5, hs1000000⟩ := hJ
    rw [m_l18_pick_J1.eq_1] at hm
    refine .ld (d := 5) (v := (.int .i64 k_4)) hs5 ?_
    refine .ld (d := 1000000) (v := (enc [])) hs1000000 ?_
    clear hs5 hs1000000
    refine wseq ?_
    refine wregion ?_
    refine lv (v := (.int .i64 k_4)) rfl rfl (r_move rfl) ?_
    refine lv (v := (.int .i64 k_4)) rfl rfl (r_assign rfl) ?_
    refine lnil ?_
    refine wret ?_
    cases hm
    exact ⟨rfl, rfl, hst.below⟩
  · refine wseq ?_
    refine wregion ?_
    refine lv (v := (.int .i64 (Int.tmod p0_i p1_n))) rfl rfl (r_move rfl) ?_
    refine lv (v := (.bool (decide ((Int.tmod p0_i p1_n) < 0)))) rfl rfl (r_lss (Int.tmod p0_i p1_n) 0 rfl rfl) ?_
    refine lnil ?_
    refine wcond (decide ((Int.tmod p0_i p1_n) < 0)) rfl (fun hb => ?_) (fun hb => ?_)
    · rw [if_pos hb] at hm
      clear hb
      refine wregion ?_
      refine lv (v := (.int .i64 (Int.tmod p0_i p1_n))) rfl rfl (r_move rfl) ?_
      refine lv (v := (.int .i64 p1_n)) rfl rfl (r_move rfl) ?_
      refine lv (v := (.int .i64 (IntKind.i64.wrap ((Int.tmod p0_i p1_n) + p1_n)))) rfl rfl (r_add (Int.tmod p0_i p1_n) p1_n rfl rfl) ?_
      refine lv (v := (.int .i64 (IntKind.i64.wrap ((Int.tmod p0_i p1_n) + p1_n)))) rfl rfl (r_assign rfl) ?_
      refine lnil ?_
      exact ⟨(col0 col), (IntKind.i64.wrap ((Int.tmod p0_i p1_n) + p1_n)), hm, hst, rfl, rfl⟩
    · rw [if_neg (by rw [hb]; decide)] at hm
      clear hb
      refine wskip ?_
      exact ⟨(col0 col), (Int.tmod p0_i p1_n), hm, hst, rfl, rfl⟩



def m_graph_New (p0_n : Int) : Option ((Option (List (List Bool))) × Int) :=
  if p0_n < 0 ∨ 1024 < p0_n then some (none, 3) else some (some (List.replicate p0_n.toNat (List.replicate p0_n.toNat false)), 0)

set_option maxRecDepth 100000 in
set_option maxHeartbeats 2000000 in
theorem c_graph_New (c1 : Nat) (col : Col) (w0 : World) (p0_n : Int) (r : ((Option (List (List Bool))) × Int)) (hm : m_graph_New p0_n = some r) :
    Calls Try.prog 51 #[(.int .i64 p0_n)] w0 (fun e w' => ∃ (col' : Col) (rv1 : Value), e = .returned (.tuple #[rv1, (.int .i64 r.2)]) ∧ Grow col w0 col' w' ∧ optP rv1 r.1 (fun (d : List (List Bool)) => ∃ (o9 : GObj), rv1 = .pointer (some ⟨o9.g, 0, none⟩) ∧ GO 85 86 c1 col' w' o9 d)) := by
  refine calls_of2 2 3 (m := 33) (args := [(.int .i64 p0_n)]) Try.func51 rfl rfl rfl rfl rfl ?_
  unfold m_graph_New at hm
  have hst := St.start col w0
  refine wseq ?_
  refine wregion ?_
  refine lv (v := (.pointer none)) rfl rfl (r_assign rfl) ?_
  refine lv (v := (.int .i64 0)) rfl rfl (r_assign rfl) ?_
  refine lnil ?_
  refine wseq ?_
  refine wseq ?_
  refine Wp.cut (fun f w_2 => ∃ (col_3 : Col) (v_4 : Bool), v_4 = decide (p0_n < 0 ∨ 1024 < p0_n) ∧ St w0 (col0 col) col_3 w_2 ∧ f 0 = (.int .i64 p0_n) ∧ f 11 = (.bool v_4) ∧ f 1000000 = (enc [])) ?_ ?_
  · intro f w_2 hJ
    obtain ⟨col_3, v_4, hv, hst, hs0, hs11, hs1000000⟩ := hJ
    refine .ld (d := 0) (v := (.int .i64 p0_n)) hs0 ?_
    refine .ld (d := 11) (v := (.bool v_4)) hs11 ?_
    refine .ld (d := 1000000) (v := (enc [])) hs1000000 ?_
    clear hs0 hs11 hs1000000
    refine wcond (v_4) rfl (fun hb => ?_) (fun hb => ?_)
    · rw [if_pos (of_decide_eq_true (hv ▸ hb))] at hm
      clear hb
      refine wseq ?_
      refine wregion ?_
      refine lv (v := (.pointer none)) rfl rfl (r_assign rfl) ?_
      refine lv (v := (.int .i64 3)) rfl rfl (r_assign rfl) ?_
      refine lnil ?_
      refine wret ?_
      cases hm
      exact ⟨rfl, colF w0.heap.size col col_3 (fun n => 0), (.pointer none), rfl, hst.fin (fun n => 0), optP_no⟩
    · have hn : ¬ (p0_n < 0 ∨ 1024 < p0_n) := of_decide_eq_false (hv ▸ hb)
      rw [if_neg hn] at hm
      clear hb
      have h0 : 0 ≤ p0_n := by omega
      have h1 : p0_n ≤ 1024 := by omega
      have heq : p0_n = (p0_n.toNat : Int) := by omega
      generalize hN : p0_n.toNat = n0 at hm heq
      have hn0 : n0 ≤ 1024 := by omega
      refine wskip ?_
      refine wseq ?_
      refine wregion ?_
      refine lv (v := (.int .i64 p0_n)) rfl rfl (r_move rfl) ?_
      refine l_make (col := col_3) (w := w_2) (r := Rep.mref) (n := n0) (x0 := none) 2 rfl Try.underlying83 Try.t86 rfl rfl rfl rfl rfl (congrArg (Value.int _) heq) (congrArg (Value.int _) heq) (show n0 * 8 ≤ 281474976710656 by omega) (by simp only [maxLen]; omega) ⟨rfl, rfl⟩ ?_
      intro a_2 w_3 col_4 hg_5 hR
      replace hst := hst.grow hg_5
      refine lv (v := (.agg #[.slice a_2 (List.replicate n0 (none : Option Nat)).length n0])) rfl rfl (r_build (l := [_]) (qs := [(0, 1)]) Try.underlying85 Try.zeroValue85 ⟨rfl, Try.sizeOf83, trivial⟩ rfl) ?_
      refine l_box (col := col_4) (v := .agg #[.slice a_2 (List.replicate n0 (none : Option Nat)).length n0]) 1 rfl rfl ?_
      intro g w_4 col_5 hg_6 hB
      replace hst := hst.grow hg_6
      replace hR := hR.gr hg_6
      replace hB : Box 85 1 col_5 w_4 g #[.slice a_2 n0 n0] := by rw [List.length_replicate] at hB; exact hB
      refine lv (v := (.pointer (some ⟨g, 0, none⟩))) rfl rfl (r_assign rfl) ?_
      refine lnil ?_
      refine wseq ?_
      refine wseq ?_
      refine wregion ?_
      refine lv (v := (.pointer (some ⟨g, 0, none⟩))) rfl rfl (r_move rfl) ?_
      refine lv (v := (.pointer (some ⟨g, 0, none⟩))) rfl rfl (r_nilCheck rfl) ?_
      refine lv (v := (.pointer ((some (⟨g, 0, none⟩ : Addr)).map (·.add 0)))) rfl rfl (r_fieldAddr (sz := 1) (off := 0) Try.underlying85 rfl Try.sizeOf83 (by decide) rfl rfl ⟨_, _, rfl⟩) ?_
      refine lv (v := (.slice a_2 n0 n0)) rfl rfl (r_ld Try.isAgg83 rfl (hB.atN.nth (q := 0) (v := .slice a_2 n0 n0) rfl)) ?_
      refine lv (v := (.int .i64 (n0 : Int))) rfl rfl (r_len Try.underlying83 rfl) ?_
      refine lv (v := (.int .i64 0)) rfl rfl (r_move rfl) ?_
      refine lnil ?_
      refine wblock ?_
      refine wloop (fun n f w => ∃ (col' : Col) (k : Nat) (bs : List Nat), k + n = n0 ∧ bs.length = k ∧ bs.Nodup ∧ St w0 (col0 col) col' w ∧ Box 85 1 col' w g #[.slice a_2 n0 n0] ∧ Own Rep.mref 86 2 col' w a_2 n0 (bs.map some ++ List.replicate n none) ∧ (∀ b ∈ bs, MapB 3 col' w b (List.replicate n0 false)) ∧
        f 21 = (.int .i64 (k : Int)) ∧ f 20 = (.int .i64 (n0 : Int)) ∧ f 4 = (.pointer (some ⟨g, 0, none⟩)) ∧ f 1000000 = (enc [])) n0 ⟨col_5, 0, [], by omega, rfl, by simp, hst, hB, hR, by simp, rfl, rfl, rfl, rfl⟩ ?_
      clear hst hB hR
      intro n f w hI
      obtain ⟨col', k, bs, hk, hbl, hnd, hst, hB, hR, hMs, hs21, hs20, hs4, hs1000000⟩ := hI
      refine .ld (d := 21) (v := (.int .i64 (k : Int))) hs21 ?_
      refine .ld (d := 20) (v := (.int .i64 (n0 : Int))) hs20 ?_
      refine .ld (d := 4) (v := (.pointer (some ⟨g, 0, none⟩))) hs4 ?_
      refine .ld (d := 1000000) (v := (enc [])) hs1000000 ?_
      clear hs21 hs20 hs4 hs1000000
      refine wseq ?_
      refine wregion ?_
      refine lv (v := (.bool (decide ((k : Int) < (n0 : Int))))) rfl rfl (r_lss (k : Int) (n0 : Int) rfl rfl) ?_
      refine lnil ?_
      refine wseq ?_
      cases n with
      | zero =>
        have hkb : decide ((k : Int) < (n0 : Int)) = false := decide_eq_false (by omega)
        refine wcondF (congrArg Value.bool hkb) ?_
        refine wexit (inB_hit ?_)
        refine wseq ?_
        refine wregion ?_
        refine lv (v := (.pointer (some ⟨g, 0, none⟩))) rfl rfl (r_move rfl) ?_
        refine lv (v := (.pointer (some ⟨g, 0, none⟩))) rfl rfl (r_assign rfl) ?_
        refine lv (v := (.int .i64 0)) rfl rfl (r_assign rfl) ?_
        refine lnil ?_
        refine wret ?_
        cases hm
        rw [List.replicate_zero, List.append_nil] at hR
        have hk0 : k = n0 := by omega
        subst hk0
        have hl : (List.replicate k (List.replicate k false)).length = k := List.length_replicate
        refine ⟨rfl, colF w0.heap.size col col' (fun n => bif Nat.beq n 1 then c1 else bif Nat.beq n 2 then c1 else bif Nat.beq n 3 then c1 else 0), (.pointer (some ⟨g, 0, none⟩)), rfl, hst.fin _, optP_of ⟨⟨g, a_2, k, bs⟩, rfl, ?_, hst.finOwn (g := (fun n => bif Nat.beq n 1 then c1 else bif Nat.beq n 2 then c1 else bif Nat.beq n 3 then c1 else 0)) rfl hR (by decide) (by decide) rfl, ?_, hnd, ?_, ?_⟩⟩
        · rw [hl]; exact hst.finBox (G := (fun n => bif Nat.beq n 1 then c1 else bif Nat.beq n 2 then c1 else bif Nat.beq n 3 then c1 else 0)) hB (by decide) (by decide) rfl
        · rw [hl]; exact hbl
        · intro r hr; rw [List.eq_of_mem_replicate hr, hl]; simp
        · intro i b r h1 h2
          rw [List.getElem?_replicate] at h2
          split at h2
          · cases h2
            exact hst.finMapB (G := (fun n => bif Nat.beq n 1 then c1 else bif Nat.beq n 2 then c1 else bif Nat.beq n 3 then c1 else 0)) (hMs b (List.mem_of_getElem? h1)) (by decide) (by decide) rfl
          · cases h2
      | succ n =>
        have hkb : decide ((k : Int) < (n0 : Int)) = true := decide_eq_true (by omega)
        refine wcondT (congrArg Value.bool hkb) ?_
        refine wskip ?_
        refine wseq ?_
        refine wblock ?_
        refine wseq ?_
        refine wregion ?_
        refine lv (v := (.int .i64 (k : Int))) rfl rfl (r_move rfl) ?_
        refine lv (v := (.int .i64 (k : Int))) rfl rfl (r_assign rfl) ?_
        refine lnil ?_
        refine wregion ?_
        refine lv (v := (.pointer (some ⟨g, 0, none⟩))) rfl rfl (r_move rfl) ?_
        refine lv (v := (.pointer (some ⟨g, 0, none⟩))) rfl rfl (r_nilCheck rfl) ?_
        refine lv (v := (.pointer ((some (⟨g, 0, none⟩ : Addr)).map (·.add 0)))) rfl rfl (r_fieldAddr (sz := 1) (off := 0) Try.underlying85 rfl Try.sizeOf83 (by decide) rfl rfl ⟨_, _, rfl⟩) ?_
        refine lv (v := (.slice a_2 n0 n0)) rfl rfl (r_ld Try.isAgg83 rfl (hB.atN.nth (q := 0) (v := .slice a_2 n0 n0) rfl)) ?_
        refine lv (v := (.int .i64 (k : Int))) rfl rfl (r_move rfl) ?_
        refine l_gmake (col := col') 4 n0 rfl ?_
        intro b w_7 col_8 hg_9 hM
        replace hst := hst.grow hg_9
        replace hB := hB.gr hg_9
        replace hR := hR.gr hg_9
        replace hMs := fun x hx => (hMs x hx).gr hg_9
        have hat : at? (bs.map some ++ List.replicate (n + 1) none) (k : Int) = some (none : Option Nat) := by
          rw [at?_nat, List.getElem?_append_right (by simp [hbl]), List.length_map, hbl, Nat.sub_self, List.replicate_succ]; rfl
        refine lv (v := (sptr a_2 (Int.toNat (k : Int) * 1))) rfl rfl (r_idx Try.underlying83 Try.sizeOf86 rfl rfl (by omega) (by omega) (hR.addr hat)) ?_
        refine l_store (x1 := some b) (v := .map (some b)) hR hat rfl Try.sizeOf86 ⟨rfl, rfl⟩ rfl rfl (by decide) ?_
        intro w_8 hk_1 hs_1 hR2
        replace hst := hst.kp hk_1 hs_1 (by decide) (by decide)
        replace hB := hB.kp hk_1 (by decide)
        replace hM := hM.kp hk_1 (by decide) (by decide)
        replace hMs := fun x hx => (hMs x hx).kp hk_1 (by decide) (by decide)
        clear hR
        have hnb : b ∉ bs := fun hb => by
          have h1 := (hMs b hb).1
          rw [hM.1] at h1; cases h1
        refine lnil ?_
        refine wregion ?_
        refine lv (v := (.int .i64 (IntKind.i64.wrap ((k : Int) + 1)))) rfl rfl (r_add (k : Int) 1 rfl rfl) ?_
        refine lv (v := (.int .i64 (IntKind.i64.wrap ((k : Int) + 1)))) rfl rfl (r_move rfl) ?_
        refine lnil ?_
        replace hst := hst.recol 4 3 (by decide) (by decide)
        replace hB := hB.recol 4 3 (by decide)
        replace hR2 := hR2.recol 4 3 (by decide)
        replace hM := hM.recolSelf 3
        replace hMs := fun x hx => (hMs x hx).recol 4 3 (by decide)
        have hset : (bs.map some ++ List.replicate (n + 1) none).set (Int.toNat (k : Int)) (some b) = (bs ++ [b]).map some ++ List.replicate n none := by
          rw [Int.toNat_natCast, List.set_append_right _ _ (by simp [hbl]), List.length_map, hbl, Nat.sub_self, List.replicate_succ]
          simp
        rw [hset] at hR2
        refine ⟨n, by omega, ⟨_, k + 1, bs ++ [b], by omega, by simp [hbl], ?_, hst, hB, hR2, ?_, ?_, rfl, rfl, rfl⟩⟩
        · rw [List.nodup_append]
          exact ⟨hnd, by simp, fun x hx y hy e => by simp only [List.mem_singleton] at hy; subst hy; subst e; exact hnb hx⟩
        · intro x hx
          rcases List.mem_append.1 hx with hx | hx
          · exact hMs x hx
          · simp only [List.mem_singleton] at hx; subst hx; exact hM
        · exact congrArg (Value.int .i64) (wrap_succ (by simp only [maxLen]; omega))
  · refine wregion ?_
    refine lv (v := (.int .i64 p0_n)) rfl rfl (r_move rfl) ?_
    refine lv (v := (.bool (decide (p0_n < 0)))) rfl rfl (r_lss p0_n 0 rfl rfl) ?_
    refine lv (v := (.bool (decide (p0_n < 0)))) rfl rfl (r_move rfl) ?_
    by_cases hg_5 : (decide (p0_n < 0)) = true
    · refine lp (b := decide (p0_n < 0)) 8 rfl rfl rfl rfl (by rw [hg_5]; rfl) ?_
      refine lp (b := decide (p0_n < 0)) 8 rfl rfl rfl rfl (by rw [hg_5]; rfl) ?_
      refine lv (v := (.bool true)) rfl rfl (r_pickT (congrArg Value.bool hg_5) rfl) ?_
      refine lnil ?_
      exact ⟨(col0 col), true, by have := of_decide_eq_true hg_5; simp [this], hst, rfl, rfl, rfl⟩
    · replace hg_5 := Bool.eq_false_iff.2 hg_5
      refine lg (b := decide (p0_n < 0)) 8 rfl rfl rfl (by rw [hg_5]; rfl) ?_
      refine lv (v := (.int .i64 p0_n)) rfl rfl (r_move rfl) ?_
      refine lg (b := decide (p0_n < 0)) 8 rfl rfl rfl (by rw [hg_5]; rfl) ?_
      refine lv (v := (.bool (decide (1024 < p0_n)))) rfl rfl (r_gtr p0_n 1024 rfl rfl) ?_
      refine lv (v := (.bool (decide (1024 < p0_n)))) rfl rfl (r_pickF (congrArg Value.bool hg_5) rfl) ?_
      refine lnil ?_
      exact ⟨(col0 col), (decide (1024 < p0_n)), by have := of_decide_eq_false hg_5; simp [this], hst, rfl, rfl, rfl⟩


set_option maxRecDepth 100000 in
theorem el26_66 : ElemOk Try.prog 26 1 24 := ⟨Try.t26, _, rfl, rfl, rfl, rfl, rfl⟩

def m_r15_New_L1 (N : Nat) (p0_n : Int) : Nat → (List (List Bool)) → Int → Option ((Option ((List (List Bool)))) × Int)
  | 0, _, _ => none
  | n_10 + 1, v_13, i_17 => if (decide (i_17 < p0_n)) = true then (chk ((Int.toNat p0_n) * 1 ≤ 281474976710656 ∧ (Int.toNat p0_n) ≤ maxLen ∧ 0 ≤ p0_n) (chk ((v_13.length + [List.replicate (Int.toNat p0_n) (false : Bool)].length) * 24 ≤ 140737488355328 ∧ v_13.length + [List.replicate (Int.toNat p0_n) (false : Bool)].length ≤ maxLen) ((m_r15_New_L1 N p0_n n_10) (v_13 ++ [List.replicate (Int.toNat p0_n) (false : Bool)]) (IntKind.i64.wrap (i_17 + 1))))) else (some ((some v_13), 0))

def m_r15_New_J1 (N : Nat) (p0_n : Int) (v_4 : Bool) : Option ((Option ((List (List Bool)))) × Int) :=
  if v_4 = true then (some (none, 3)) else (m_r15_New_L1 N p0_n N ([] : List (List Bool)) 0)

def m_r15_New (N : Nat) (p0_n : Int) : Option ((Option ((List (List Bool)))) × Int) :=
  if (decide (p0_n < 0)) = true then (m_r15_New_J1 N p0_n true) else (m_r15_New_J1 N p0_n (decide (1024 < p0_n)))

set_option maxRecDepth 100000 in
set_option maxHeartbeats 2000000 in
theorem c_r15_New (N : Nat) (c1 : Nat) (c2 : Nat) (col : Col) (w0 : World) (p0_n : Int) (r : ((Option ((List (List Bool)))) × Int)) (hm : m_r15_New N p0_n = some r) :
    Calls Try.prog 66 #[(.int .i64 p0_n)] w0 (fun e w' => ∃ (col' : Col) (rv1 : Value), e = .returned (.tuple #[rv1, (.int .i64 r.2)]) ∧ Grow col w0 col' w' ∧ optP rv1 r.1 (fun (d : ((List (List Bool)))) => ∃ (g9 : Nat) (a9 : Option Addr) (cap9 : Nat), rv1 = .pointer (some ⟨g9, 0, none⟩) ∧ Box 102 c1 col' w' g9 #[(.slice a9 d.length cap9)] ∧ Own (Rep.row 4 Rep.bool) 26 c2 col' w' a9 cap9 d)) := by
  refine calls_of2 2 3 (m := 31) (args := [(.int .i64 p0_n)]) Try.func66 rfl rfl rfl rfl rfl ?_
  rw [m_r15_New.eq_1] at hm
  have hst := St.start col w0
  refine wseq ?_
  refine wregion ?_
  refine lv (v := (.pointer none)) rfl rfl (r_assign rfl) ?_
  refine lv (v := (.int .i64 0)) rfl rfl (r_assign rfl) ?_
  refine lnil ?_
  refine wseq ?_
  refine wseq ?_
  refine Wp.cut (fun f w_2 => ∃ (col_3 : Col) (v_4 : Bool), m_r15_New_J1 N p0_n v_4 = some r ∧ St w0 (col0 col) col_3 w_2 ∧ f 0 = (.int .i64 p0_n) ∧ f 11 = (.bool v_4) ∧ f 1000000 = (enc [])) ?_ ?_
  · intro f w_2 hJ
    obtain ⟨col_3, v_4, hm, hst, hs0, hs11, hs1000000⟩ := hJ
    rw [m_r15_New_J1.eq_1] at hm
    refine .ld (d := 0) (v := (.int .i64 p0_n)) hs0 ?_
    refine .ld (d := 11) (v := (.bool v_4)) hs11 ?_
    refine .ld (d := 1000000) (v := (enc [])) hs1000000 ?_
    clear hs0 hs11 hs1000000
    refine wcond (v_4) rfl (fun hb => ?_) (fun hb => ?_)
    · rw [if_pos hb] at hm
      clear hb
      refine wseq ?_
      refine wregion ?_
      refine lv (v := (.pointer none)) rfl rfl (r_assign rfl) ?_
      refine lv (v := (.int .i64 3)) rfl rfl (r_assign rfl) ?_
      refine lnil ?_
      refine wret ?_
      cases hm
      exact ⟨rfl, colF w0.heap.size col col_3 (fun n => 0), (.pointer none), rfl, hst.fin (fun n => 0), optP_no⟩
    · rw [if_neg (by rw [hb]; decide)] at hm
      clear hb
      refine wskip ?_
      refine wseq ?_
      refine wregion ?_
      refine lv (v := (.agg #[(.slice none (([] : List (List Bool)).length) 0)])) rfl rfl (r_build (l := [_]) (qs := [(0, 1)]) Try.underlying102 Try.zeroValue102 ⟨rfl, Try.sizeOf100, trivial⟩ rfl) ?_
      refine l_box (col := col_3) (v := (.agg #[(.slice none (([] : List (List Bool)).length) 0)])) 1 rfl rfl ?_
      intro g_5 w_6 col_7 hg_8 hb_9
      replace hst := hst.grow hg_8
      replace hb_9 : Box 102 1 col_7 w_6 g_5 #[(.slice none (([] : List (List Bool)).length) 0)] := hb_9
      refine lv (v := (.pointer (some ⟨g_5, 0, none⟩))) rfl rfl (r_assign rfl) ?_
      refine lnil ?_
      refine wseq ?_
      refine wseq ?_
      refine wregion ?_
      refine lv (v := (.int .i64 0)) rfl rfl (r_assign rfl) ?_
      refine lnil ?_
      refine wblock ?_
      refine wloop (fun n f w_11 => ∃ (col_12 : Col) (a_14 : Option Addr) (cap_15 : Nat) (v_13 : List (List Bool)) (i_17 : Int) (n_10 : Nat), n_10 = n ∧ m_r15_New_L1 N p0_n n_10 v_13 i_17 = some r ∧ St w0 (col0 col) col_12 w_11 ∧ Own (Rep.row 4 Rep.bool) 26 2 col_12 w_11 a_14 cap_15 v_13 ∧ Box 102 1 col_12 w_11 g_5 #[(.slice a_14 v_13.length cap_15)] ∧ f 0 = (.int .i64 p0_n) ∧ f 4 = (.pointer (some ⟨g_5, 0, none⟩)) ∧ f 5 = (.int .i64 i_17) ∧ f 1000000 = (enc [])) N ⟨col_7, none, 0, ([] : List (List Bool)), 0, N, rfl, hm, hst, Own.nil, hb_9, rfl, rfl, rfl, rfl⟩ ?_
      clear hm; intro n f w_11 hI
      obtain ⟨col_12, a_14, cap_15, v_13, i_17, n_10, hn, hm, hst, h_16, hb_9, hs0, hs4, hs5, hs1000000⟩ := hI
      subst hn
      refine .ld (d := 0) (v := (.int .i64 p0_n)) hs0 ?_
      refine .ld (d := 4) (v := (.pointer (some ⟨g_5, 0, none⟩))) hs4 ?_
      refine .ld (d := 5) (v := (.int .i64 i_17)) hs5 ?_
      refine .ld (d := 1000000) (v := (enc [])) hs1000000 ?_
      clear hs0 hs4 hs5 hs1000000
      cases n_10 with
      | zero => rw [m_r15_New_L1.eq_1] at hm; cases hm
      | succ n_10 =>
        rw [m_r15_New_L1.eq_2] at hm
        refine wseq ?_
        refine wseq ?_
        refine wregion ?_
        refine lv (v := (.int .i64 i_17)) rfl rfl (r_move rfl) ?_
        refine lv (v := (.int .i64 p0_n)) rfl rfl (r_move rfl) ?_
        refine lv (v := (.bool (decide (i_17 < p0_n)))) rfl rfl (r_lss i_17 p0_n rfl rfl) ?_
        refine lnil ?_
        refine wcond (decide (i_17 < p0_n)) rfl (fun hb => ?_) (fun hb => ?_)
        · rw [if_pos hb] at hm
          clear hb
          refine wskip ?_
          refine wseq ?_
          refine wblock ?_
          refine wmix (col := col_12) [(0, 1), (1, 1), (2, 1), (3, 1), (4, 0), (5, 1), (6, 3), (7, 3), (8, 2), (9, 1), (10, 1), (11, 2)] (by kernel_rfl) (by kernel_rfl) ?_
          refine xu (v := (.pointer (some ⟨g_5, 0, none⟩))) rfl rfl (fun _ => r_move rfl) ?_
          refine xu (v := (.pointer (some ⟨g_5, 0, none⟩))) rfl rfl (fun _ => r_move rfl) ?_
          refine xu (v := (.pointer (some ⟨g_5, 0, none⟩))) rfl rfl (fun _ => r_nilCheck rfl) ?_
          refine xu (v := (.pointer ((some (⟨g_5, 0, none⟩ : Addr)).map (·.add 0)))) rfl rfl (fun _ => r_fieldAddr (sz := 1) (off := 0) Try.underlying102 rfl Try.sizeOf100 (by decide) rfl rfl ⟨_, _, rfl⟩) ?_
          refine xv (v := (.slice a_14 v_13.length cap_15)) rfl rfl (fun _ hC => r_ld Try.isAgg100 rfl (((hb_9.atN).nth (q := 0) (v := (.slice a_14 v_13.length cap_15)) rfl).gr (Grow.of_below (col := col_12) hC.below))) ?_
          refine xu (v := (.int .i64 p0_n)) rfl rfl (fun _ => r_move rfl) ?_
          refine xe rfl rfl ?_
          intro w_18 hC0
          have hC : Grow col_12 w_11 col_12 w_18 := .of_below hC0.below
          replace h_16 := h_16.gr hC
          replace hb_9 := hb_9.gr hC
          replace hst := hst.grow hC
          obtain ⟨hb_19, hm⟩ := chk_some hm
          refine l_make (col := col_12) (w := w_18) (r := Rep.bool) (n := (Int.toNat p0_n)) (x0 := false) 3 rfl Try.underlying26 Try.t4 rfl rfl rfl rfl rfl (congrArg (Value.int _) (Int.toNat_of_nonneg hb_19.2.2).symm) (congrArg (Value.int _) (Int.toNat_of_nonneg hb_19.2.2).symm) hb_19.1 hb_19.2.1 (rd_bool false) ?_
          intro a_20 w_21 col_22 hg_23 h_24
          replace h_16 := h_16.gr hg_23
          replace hb_9 := hb_9.gr hg_23
          replace hst := hst.grow hg_23
          refine lnil ⟨fun w' => Grow col_22 w_21 col_22 w', Grow.refl _ _, fun _ _ h => cls hC0 hg_23 h, ?_⟩
          refine xe rfl rfl ?_
          intro w_25 hC0
          have hC : Grow col_22 w_21 col_22 w_25 := .of_below hC0.below
          replace h_16 := h_16.gr hC
          replace h_24 := h_24.gr hC
          replace hb_9 := hb_9.gr hC
          replace hst := hst.grow hC
          refine l_lit (col := col_22) (r := (Rep.row 4 Rep.bool)) (xs := [List.replicate (Int.toNat p0_n) (false : Bool)]) [(.slice a_20 ((List.replicate (Int.toNat p0_n) (false : Bool)).length) (Int.toNat p0_n))] 3 rfl Try.underlying100 el26_66 rfl rfl rfl rfl rfl rfl (by intro v hv; simp only [List.mem_cons, List.not_mem_nil, or_false] at hv; subst hv; rfl) (RowsH.cons1 (cs := [(.slice a_20 ((List.replicate (Int.toNat p0_n) (false : Bool)).length) (Int.toNat p0_n))]) h_24.has Rows.nil0) ?_
          intro a_26 w_27 col_28 hg_29 h_30
          replace h_16 := h_16.gr hg_29
          replace h_24 := h_24.gr hg_29
          replace hb_9 := hb_9.gr hg_29
          replace hst := hst.grow hg_29
          refine lnil ⟨fun w' => Grow col_28 w_27 col_28 w', Grow.refl _ _, fun _ _ h => cls hC0 hg_29 h, ?_⟩
          refine xe rfl rfl ?_
          intro w_31 hC0
          have hC : Grow col_28 w_27 col_28 w_31 := .of_below hC0.below
          replace h_16 := h_16.gr hC
          replace h_30 := h_30.gr hC
          replace hb_9 := hb_9.gr hC
          replace hst := hst.grow hC
          obtain ⟨hb_32, hm⟩ := chk_some hm
          refine l_ext (col := col_28) (w := w_31) (r := (Rep.row 4 Rep.bool)) (c := 2) (c2 := 3) (h_16.ex) (h_30.srcC (by decide)) rfl Try.underlying100 el26_66 rfl rfl rfl hb_32.1 hb_32.2 (by decide) ?_
          intro a_33 cap_34 w_35 col_36 hk_37 h_38
          clear h_30
          replace hb_9 := hb_9.kpp hk_37 rfl
          replace hst := hst.kpp hk_37 rfl rfl
          clear h_16
          refine lnil ⟨fun w' => Grow col_36 w_35 col_36 w', Grow.refl _ _, fun h => absurd h (by decide), ?_⟩
          refine xu (v := (.pointer (some ⟨g_5, 0, none⟩))) rfl rfl (fun _ => r_nilCheck rfl) ?_
          refine xu (v := (.pointer ((some (⟨g_5, 0, none⟩ : Addr)).map (·.add 0)))) rfl rfl (fun _ => r_fieldAddr (sz := 1) (off := 0) Try.underlying102 rfl Try.sizeOf100 (by decide) rfl rfl ⟨_, _, rfl⟩) ?_
          refine xe rfl rfl ?_
          intro w_39 hC0
          have hC : Grow col_36 w_35 col_36 w_39 := .of_below hC0.below
          replace h_38 := h_38.gr hC
          replace hb_9 := hb_9.gr hC
          replace hst := hst.grow hC
          refine l_bstoreF (off := 0) (v := (.slice a_33 ((v_13 ++ [List.replicate (Int.toNat p0_n) (false : Bool)]).length) cap_34)) hb_9 Try.sizeOf100 rfl rfl (by intro u hu; simp only [Value.cells, List.mem_cons, List.not_mem_nil, or_false] at hu; subst hu; rfl) rfl rfl ?_
          intro w_40 hk_41 hs_42 hb_43
          replace h_38 := h_38.kp hk_41 (by decide) (by decide)
          replace hst := hst.kp hk_41 hs_42 (by decide) (by decide)
          clear hb_9
          replace hb_43 : Box 102 1 col_36 w_40 g_5 #[(.slice a_33 ((v_13 ++ [List.replicate (Int.toNat p0_n) (false : Bool)]).length) cap_34)] := hb_43
          refine lnil ⟨fun w' => Grow col_36 w_40 col_36 w', Grow.refl _ _, fun h => absurd h (by decide), ?_⟩
          have h_44 := h_38.new
          clear h_38
          refine xnil ?_
          intro w_45 hC
          replace hC : Grow col_36 w_40 col_36 w_45 := .of_below hC.below
          replace h_44 := h_44.gr hC
          replace hb_43 := hb_43.gr hC
          replace hst := hst.grow hC
          refine wregion ?_
          refine lv (v := (.int .i64 i_17)) rfl rfl (r_move rfl) ?_
          refine lv (v := (.int .i64 (IntKind.i64.wrap (i_17 + 1)))) rfl rfl (r_add i_17 1 rfl rfl) ?_
          refine lv (v := (.int .i64 (IntKind.i64.wrap (i_17 + 1)))) rfl rfl (r_assign rfl) ?_
          refine lnil ?_
          exact ⟨n_10, by omega, ⟨col_36, a_33, cap_34, (v_13 ++ [List.replicate (Int.toNat p0_n) (false : Bool)]), (IntKind.i64.wrap (i_17 + 1)), n_10, rfl, hm, hst, h_44, hb_43, rfl, rfl, rfl, rfl⟩⟩
        · rw [if_neg (by rw [hb]; decide)] at hm
          clear hb
          refine wexit (inB_hit ?_)
          refine wseq ?_
          refine wregion ?_
          refine lv (v := (.pointer (some ⟨g_5, 0, none⟩))) rfl rfl (r_move rfl) ?_
          refine lv (v := (.pointer (some ⟨g_5, 0, none⟩))) rfl rfl (r_assign rfl) ?_
          refine lv (v := (.int .i64 0)) rfl rfl (r_assign rfl) ?_
          refine lnil ?_
          refine wret ?_
          cases hm
          exact ⟨rfl, colF w0.heap.size col col_12 (fun n => bif Nat.beq n 1 then c1 else bif Nat.beq n 2 then c2 else 0), (.pointer (some ⟨g_5, 0, none⟩)), rfl, hst.fin (fun n => bif Nat.beq n 1 then c1 else bif Nat.beq n 2 then c2 else 0), optP_of ⟨g_5, a_14, cap_15, rfl, hst.finBox (G := (fun n => bif Nat.beq n 1 then c1 else bif Nat.beq n 2 then c2 else 0)) hb_9 (by decide) (by decide) rfl, hst.finOwn (g := (fun n => bif Nat.beq n 1 then c1 else bif Nat.beq n 2 then c2 else 0)) rfl h_16 (by decide) (by decide) rfl⟩⟩
  · refine wregion ?_
    refine lv (v := (.int .i64 p0_n)) rfl rfl (r_move rfl) ?_
    refine lv (v := (.bool (decide (p0_n < 0)))) rfl rfl (r_lss p0_n 0 rfl rfl) ?_
    refine lv (v := (.bool (decide (p0_n < 0)))) rfl rfl (r_move rfl) ?_
    by_cases hg_46 : (decide (p0_n < 0)) = true
    · rw [if_pos hg_46] at hm
      refine lp (b := decide (p0_n < 0)) 8 rfl rfl rfl rfl (by rw [hg_46]; rfl) ?_
      refine lp (b := decide (p0_n < 0)) 8 rfl rfl rfl rfl (by rw [hg_46]; rfl) ?_
      refine lv (v := (.bool true)) rfl rfl (r_pickT (congrArg Value.bool hg_46) rfl) ?_
      refine lnil ?_
      exact ⟨(col0 col), true, hm, hst, rfl, rfl, rfl⟩
    · rw [if_neg hg_46] at hm
      replace hg_46 := Bool.eq_false_iff.2 hg_46
      refine lg (b := decide (p0_n < 0)) 8 rfl rfl rfl (by rw [hg_46]; rfl) ?_
      refine lv (v := (.int .i64 p0_n)) rfl rfl (r_move rfl) ?_
      refine lg (b := decide (p0_n < 0)) 8 rfl rfl rfl (by rw [hg_46]; rfl) ?_
      refine lv (v := (.bool (decide (1024 < p0_n)))) rfl rfl (r_gtr p0_n 1024 rfl rfl) ?_
      refine lv (v := (.bool (decide (1024 < p0_n)))) rfl rfl (r_pickF (congrArg Value.bool hg_46) rfl) ?_
      refine lnil ?_
      exact ⟨(col0 col), (decide (1024 < p0_n)), hm, hst, rfl, rfl, rfl⟩




def m_graph_Graph_in_J1 (v_4 : Bool) : Option Bool :=
  some v_4

def m_graph_Graph_in (p0_g : List (List Bool)) (p1_a : Int) : Option Bool :=
  if (decide (0 ≤ p1_a)) = true then (m_graph_Graph_in_J1 (decide (p1_a < (p0_g.length : Int)))) else (m_graph_Graph_in_J1 false)

set_option maxRecDepth 100000 in
set_option maxHeartbeats 2000000 in
theorem c_graph_Graph_in (col : Col) (w0 : World) (qc0 : Nat) (hqqc0 : qc0 ≠ 0) (o0 : GObj) (p0_g : List (List Bool)) (p1_a : Int) (h0 : GO 85 86 qc0 col w0 o0 p0_g) (r : Bool) (hm : m_graph_Graph_in p0_g p1_a = some r) :
    Calls Try.prog 54 #[(.pointer (some ⟨o0.g, 0, none⟩)), (.int .i64 p1_a)] w0 (fun e w' => e = .returned ((.bool r)) ∧ Below w0.heap.size w0 w') := by
  refine calls_of1 4 (m := 16) (args := [(.pointer (some ⟨o0.g, 0, none⟩)), (.int .i64 p1_a)]) Try.func54 rfl rfl rfl rfl rfl ?_
  rw [m_graph_Graph_in.eq_1] at hm
  have hst := St.start col w0
  replace h0 := h0.start0 hqqc0
  refine wseq ?_
  refine wregion ?_
  refine lv (v := (.bool false)) rfl rfl (r_assign rfl) ?_
  refine lnil ?_
  refine wseq ?_
  refine Wp.cut (fun f w_2 => ∃ (col_3 : Col) (v_4 : Bool), m_graph_Graph_in_J1 v_4 = some r ∧ St w0 (col0 col) col_3 w_2 ∧ f 4 = (.bool v_4) ∧ f 1000000 = (enc [])) ?_ ?_
  · intro f w_2 hJ
    obtain ⟨col_3, v_4, hm, hst, hs4, hs1000000⟩ := hJ
    rw [m_graph_Graph_in_J1.eq_1] at hm
    refine .ld (d := 4) (v := (.bool v_4)) hs4 ?_
    refine .ld (d := 1000000) (v := (enc [])) hs1000000 ?_
    clear hs4 hs1000000
    refine wret ?_
    cases hm
    exact ⟨rfl, rfl, hst.below⟩
  · refine wregion ?_
    refine lv (v := (.int .i64 p1_a)) rfl rfl (r_move rfl) ?_
    refine lv (v := (.bool (decide (0 ≤ p1_a)))) rfl rfl (r_geq p1_a 0 rfl rfl) ?_
    refine lv (v := (.bool (decide (0 ≤ p1_a)))) rfl rfl (r_move rfl) ?_
    by_cases hg_5 : (decide (0 ≤ p1_a)) = true
    · rw [if_pos hg_5] at hm
      refine lg (b := decide (0 ≤ p1_a)) 7 rfl rfl rfl (by rw [hg_5]; rfl) ?_
      refine lv (v := (.int .i64 p1_a)) rfl rfl (r_move rfl) ?_
      refine lg (b := decide (0 ≤ p1_a)) 7 rfl rfl rfl (by rw [hg_5]; rfl) ?_
      refine lv (v := (.pointer (some ⟨o0.g, 0, none⟩))) rfl rfl (r_move rfl) ?_
      refine lg (b := decide (0 ≤ p1_a)) 7 rfl rfl rfl (by rw [hg_5]; rfl) ?_
      refine lv (v := (.pointer (some ⟨o0.g, 0, none⟩))) rfl rfl (r_nilCheck rfl) ?_
      refine lg (b := decide (0 ≤ p1_a)) 7 rfl rfl rfl (by rw [hg_5]; rfl) ?_
      refine lv (v := (.pointer ((some (⟨o0.g, 0, none⟩ : Addr)).map (·.add 0)))) rfl rfl (r_fieldAddr (sz := 1) (off := 0) Try.underlying85 rfl Try.sizeOf83 (by decide) rfl rfl ⟨_, _, rfl⟩) ?_
      refine lg (b := decide (0 ≤ p1_a)) 7 rfl rfl rfl (by rw [hg_5]; rfl) ?_
      refine lv (v := (.slice o0.a p0_g.length o0.cap)) rfl rfl (r_ld Try.isAgg83 rfl ((h0.box.atN).nth (q := 0) (v := (.slice o0.a p0_g.length o0.cap)) rfl)) ?_
      refine lg (b := decide (0 ≤ p1_a)) 7 rfl rfl rfl (by rw [hg_5]; rfl) ?_
      refine lv (v := (.int .i64 (p0_g.length : Int))) rfl rfl (r_len Try.underlying83 rfl) ?_
      refine lg (b := decide (0 ≤ p1_a)) 7 rfl rfl rfl (by rw [hg_5]; rfl) ?_
      refine lv (v := (.bool (decide (p1_a < (p0_g.length : Int))))) rfl rfl (r_lss p1_a (p0_g.length : Int) rfl rfl) ?_
      refine lv (v := (.bool (decide (p1_a < (p0_g.length : Int))))) rfl rfl (r_pickT (congrArg Value.bool hg_5) rfl) ?_
      refine lv (v := (.bool (decide (p1_a < (p0_g.length : Int))))) rfl rfl (r_assign rfl) ?_
      refine lnil ?_
      exact ⟨(col0 col), (decide (p1_a < (p0_g.length : Int))), hm, hst, rfl, rfl⟩
    · rw [if_neg hg_5] at hm
      replace hg_5 := Bool.eq_false_iff.2 hg_5
      refine lp (b := decide (0 ≤ p1_a)) 7 rfl rfl rfl rfl (by rw [hg_5]; rfl) ?_
      refine lp (b := decide (0 ≤ p1_a)) 7 rfl rfl rfl rfl (by rw [hg_5]; rfl) ?_
      refine lp (b := decide (0 ≤ p1_a)) 7 rfl rfl rfl rfl (by rw [hg_5]; rfl) ?_
      refine lp (b := decide (0 ≤ p1_a)) 7 rfl rfl rfl rfl (by rw [hg_5]; rfl) ?_
      refine lp (b := decide (0 ≤ p1_a)) 7 rfl rfl rfl rfl (by rw [hg_5]; rfl) ?_
      refine lp (b := decide (0 ≤ p1_a)) 7 rfl rfl rfl rfl (by rw [hg_5]; rfl) ?_
      refine lp (b := decide (0 ≤ p1_a)) 7 rfl rfl rfl rfl (by rw [hg_5]; rfl) ?_
      refine lv (v := (.bool false)) rfl rfl (r_pickF (congrArg Value.bool hg_5) rfl) ?_
      refine lv (v := (.bool false)) rfl rfl (r_assign rfl) ?_
      refine lnil ?_
      exact ⟨(col0 col), false, hm, hst, rfl, rfl⟩




def m_graph_Graph_Join_J1 (p0_g : List (List Bool)) (p1_a : Int) (p2_b : Int) (v_19 : Bool) : Option (Bool × List (List Bool)) :=
  if v_19 = true then (some (false, p0_g)) else ((at? p0_g p1_a).bind fun row_20 => (at? p0_g p2_b).bind fun row_25 => chk (0 ≤ p2_b ∧ Int.toNat p2_b < row_20.length) ((some (p0_g.set (Int.toNat p1_a) (rset row_20 p2_b true))).bind fun es_35 => (at? es_35 p2_b).bind fun row_46 => chk (0 ≤ p1_a ∧ Int.toNat p1_a < row_46.length) ((some (es_35.set (Int.toNat p2_b) (rset row_46 p1_a true))).bind fun es_52 => some (true, es_52))))

def m_graph_Graph_Join (p0_g : List (List Bool)) (p1_a : Int) (p2_b : Int) : Option (Bool × List (List Bool)) :=
  (m_graph_Graph_in p0_g p1_a).bind fun r_63 => if (!r_63) = true then (m_graph_Graph_Join_J1 p0_g p1_a p2_b true) else ((m_graph_Graph_in p0_g p2_b).bind fun r_68 => if (!r_68) = true then (m_graph_Graph_Join_J1 p0_g p1_a p2_b true) else (if (decide (p1_a = p2_b)) = true then (m_graph_Graph_Join_J1 p0_g p1_a p2_b true) else ((at? p0_g p1_a).bind fun row_74 => m_graph_Graph_Join_J1 p0_g p1_a p2_b (gat row_74 p2_b))))

set_option maxRecDepth 100000 in
set_option maxHeartbeats 2000000 in
theorem c_graph_Graph_Join (col : Col) (w0 : World) (qc0 : Nat) (hd : dstB [qc0] = true) (o0 : GObj) (p0_g : List (List Bool)) (p1_a : Int) (p2_b : Int) (h0 : GO 85 86 qc0 col w0 o0 p0_g) (r : (Bool × List (List Bool))) (hm : m_graph_Graph_Join p0_g p1_a p2_b = some r) :
    Calls Try.prog 23 #[(.pointer (some ⟨o0.g, 0, none⟩)), (.int .i64 p1_a), (.int .i64 p2_b)] w0 (fun e w' => ∃ (col' : Col), e = .returned ((.bool r.1)) ∧ KeepP (pS [qc0]) col w0 col' w' ∧ GO 85 86 qc0 col' w' o0 r.2) := by
  refine calls_of1 6 (m := 53) (args := [(.pointer (some ⟨o0.g, 0, none⟩)), (.int .i64 p1_a), (.int .i64 p2_b)]) Try.func23 rfl rfl rfl rfl rfl ?_
  rw [m_graph_Graph_Join.eq_1] at hm
  have hst := St.startL (l := [qc0]) rfl col w0
  replace h0 := h0.startL (dst_nz hd 0 rfl) (dst_ix hd 0 rfl)
  refine wseq ?_
  refine wregion ?_
  refine lv (v := (.bool false)) rfl rfl (r_assign rfl) ?_
  refine lnil ?_
  refine wseq ?_
  refine wseq ?_
  refine Wp.cut (fun f w_17 => ∃ (col_18 : Col) (v_19 : Bool), m_graph_Graph_Join_J1 p0_g p1_a p2_b v_19 = some r ∧ St w0 (colL [qc0] col) col_18 w_17 ∧ GO 85 86 440 col_18 w_17 o0 p0_g ∧ f 0 = (.pointer (some ⟨o0.g, 0, none⟩)) ∧ f 1 = (.int .i64 p1_a) ∧ f 2 = (.int .i64 p2_b) ∧ f 32 = (.bool v_19) ∧ f 1000000 = (enc [])) ?_ ?_
  · intro f w_17 hJ
    obtain ⟨col_18, v_19, hm, hst, h0, hs0, hs1, hs2, hs32, hs1000000⟩ := hJ
    rw [m_graph_Graph_Join_J1.eq_1] at hm
    refine .ld (d := 0) (v := (.pointer (some ⟨o0.g, 0, none⟩))) hs0 ?_
    refine .ld (d := 1) (v := (.int .i64 p1_a)) hs1 ?_
    refine .ld (d := 2) (v := (.int .i64 p2_b)) hs2 ?_
    refine .ld (d := 32) (v := (.bool v_19)) hs32 ?_
    refine .ld (d := 1000000) (v := (enc [])) hs1000000 ?_
    clear hs0 hs1 hs2 hs32 hs1000000
    refine wcond (v_19) rfl (fun hb => ?_) (fun hb => ?_)
    · rw [if_pos hb] at hm
      clear hb
      refine wseq ?_
      refine wregion ?_
      refine lv (v := (.bool false)) rfl rfl (r_assign rfl) ?_
      refine lnil ?_
      refine wret ?_
      cases hm
      exact ⟨rfl, colFL w0.heap.size [qc0] col col_18 (fun n => bif Nat.beq n 440 then qc0 else 0), rfl, hst.finL rfl (fun n => bif Nat.beq n 440 then qc0 else 0), hst.finGOL (G := (fun n => bif Nat.beq n 440 then qc0 else 0)) rfl h0 (by decide) (by decide) rfl⟩
    · rw [if_neg (by rw [hb]; decide)] at hm
      clear hb
      refine wskip ?_
      refine wseq ?_
      refine wmix (col := col_18) [(0, 1), (1, 1), (2, 1), (3, 0), (4, 1), (5, 1), (6, 0), (7, 1), (8, 1), (9, 1), (10, 1), (11, 0), (12, 1), (13, 1), (14, 0), (15, 1), (16, 2), (17, 1), (18, 2), (19, 2), (20, 1), (21, 2)] (by kernel_rfl) (by kernel_rfl) ?_
      refine xu (v := (.pointer (some ⟨o0.g, 0, none⟩))) rfl rfl (fun _ => r_move rfl) ?_
      refine xu (v := (.pointer (some ⟨o0.g, 0, none⟩))) rfl rfl (fun _ => r_nilCheck rfl) ?_
      refine xu (v := (.pointer ((some (⟨o0.g, 0, none⟩ : Addr)).map (·.add 0)))) rfl rfl (fun _ => r_fieldAddr (sz := 1) (off := 0) Try.underlying85 rfl Try.sizeOf83 (by decide) rfl rfl ⟨_, _, rfl⟩) ?_
      refine xv (v := (.slice o0.a p0_g.length o0.cap)) rfl rfl (fun _ hC => r_ld Try.isAgg83 rfl (((h0.gr (Grow.of_below (col := col_18) hC.below)).box.atN).nth (q := 0) (v := (.slice o0.a p0_g.length o0.cap)) rfl)) ?_
      refine xu (v := (.int .i64 p1_a)) rfl rfl (fun _ => r_move rfl) ?_
      obtain ⟨row_20, hj_21, hm⟩ := bind_some hm
      obtain ⟨b_22, hb_23, _, hb_24⟩ := h0.blk hj_21
      refine xu (v := (sptr o0.a (Int.toNat p1_a * 1))) rfl rfl (fun _ => r_idx Try.underlying83 Try.sizeOf86 rfl rfl (at?_some hj_21).1 (at?_some hj_21).2.1 (h0.addr hb_23)) ?_
      refine xv (v := (.map (some b_22))) rfl rfl (fun _ hC => r_ld Try.isAgg86 rfl ((h0.gr (Grow.of_below (col := col_18) hC.below)).at1 hb_23)) ?_
      refine xu (v := (.int .i64 p2_b)) rfl rfl (fun _ => r_move rfl) ?_
      refine xu (v := (.pointer (some ⟨o0.g, 0, none⟩))) rfl rfl (fun _ => r_move rfl) ?_
      refine xu (v := (.pointer (some ⟨o0.g, 0, none⟩))) rfl rfl (fun _ => r_nilCheck rfl) ?_
      refine xu (v := (.pointer ((some (⟨o0.g, 0, none⟩ : Addr)).map (·.add 0)))) rfl rfl (fun _ => r_fieldAddr (sz := 1) (off := 0) Try.underlying85 rfl Try.sizeOf83 (by decide) rfl rfl ⟨_, _, rfl⟩) ?_
      refine xv (v := (.slice o0.a p0_g.length o0.cap)) rfl rfl (fun _ hC => r_ld Try.isAgg83 rfl (((h0.gr (Grow.of_below (col := col_18) hC.below)).box.atN).nth (q := 0) (v := (.slice o0.a p0_g.length o0.cap)) rfl)) ?_
      refine xu (v := (.int .i64 p2_b)) rfl rfl (fun _ => r_move rfl) ?_
      obtain ⟨row_25, hj_26, hm⟩ := bind_some hm
      obtain ⟨b_27, hb_28, _, hb_29⟩ := h0.blk hj_26
      refine xu (v := (sptr o0.a (Int.toNat p2_b * 1))) rfl rfl (fun _ => r_idx Try.underlying83 Try.sizeOf86 rfl rfl (at?_some hj_26).1 (at?_some hj_26).2.1 (h0.addr hb_28)) ?_
      refine xv (v := (.map (some b_27))) rfl rfl (fun _ hC => r_ld Try.isAgg86 rfl ((h0.gr (Grow.of_below (col := col_18) hC.below)).at1 hb_28)) ?_
      refine xu (v := (.int .i64 p1_a)) rfl rfl (fun _ => r_move rfl) ?_
      refine xe rfl rfl ?_
      intro w_30 hC0
      have hC : Grow col_18 w_17 col_18 w_30 := .of_below hC0.below
      replace h0 := h0.gr hC
      replace hst := hst.grow hC
      obtain ⟨hb_37, hm⟩ := chk_some hm
      obtain ⟨es_35, hz_36, hm⟩ := bind_some hm
      have hz_36 : es_35 = p0_g.set (Int.toNat p1_a) (rset row_20 p2_b true) := (Option.some.inj hz_36).symm
      refine l_gentry (k := p2_b) h0 (by decide) hb_24 (at?_some hj_21).2.2 hb_37.1 hb_37.2 rfl Try.underlying86 Try.underlying3 Try.zeroValue4 rfl rfl ?_
      intro w_31 v_38 s_39 hk_32 hs_33 h_34
      rw [← hz_36] at h_34
      clear hz_36
      replace hst := hst.kp hk_32 hs_33 (by decide) (by decide)
      clear h0
      refine lnil ⟨fun w' => Grow col_18 w_31 col_18 w', Grow.refl _ _, fun h => absurd h (by decide), ?_⟩
      refine xu (v := (.int .i64 ((s_39 : Nat) : Int))) rfl rfl (fun _ => r_extract rfl rfl) ?_
      refine xe rfl rfl ?_
      intro w_40 hC0
      have hC : Grow col_18 w_31 col_18 w_40 := .of_below hC0.below
      replace h_34 := h_34.gr hC
      replace hst := hst.grow hC
      refine l_gestore h_34 (by decide) hb_24 rfl rfl rfl ?_
      intro w_41 hk_42 hs_43 h_44
      replace hst := hst.kp hk_42 hs_43 (by decide) (by decide)
      clear h_34
      refine lnil ⟨fun w' => Grow col_18 w_41 col_18 w', Grow.refl _ _, fun h => absurd h (by decide), ?_⟩
      refine xe rfl rfl ?_
      intro w_45 hC0
      have hC : Grow col_18 w_41 col_18 w_45 := .of_below hC0.below
      replace h_44 := h_44.gr hC
      replace hst := hst.grow hC
      obtain ⟨row_46, hj_47, hm⟩ := bind_some hm
      obtain ⟨hb_54, hm⟩ := chk_some hm
      obtain ⟨es_52, hz_53, hm⟩ := bind_some hm
      have hz_53 : es_52 = es_35.set (Int.toNat p2_b) (rset row_46 p1_a true) := (Option.some.inj hz_53).symm
      refine l_gentry (k := p1_a) h_44 (by decide) hb_29 (at?_some hj_47).2.2 hb_54.1 hb_54.2 rfl Try.underlying86 Try.underlying3 Try.zeroValue4 rfl rfl ?_
      intro w_48 v_55 s_56 hk_49 hs_50 h_51
      rw [← hz_53] at h_51
      clear hz_53
      replace hst := hst.kp hk_49 hs_50 (by decide) (by decide)
      clear h_44
      refine lnil ⟨fun w' => Grow col_18 w_48 col_18 w', Grow.refl _ _, fun h => absurd h (by decide), ?_⟩
      refine xu (v := (.int .i64 ((s_56 : Nat) : Int))) rfl rfl (fun _ => r_extract rfl rfl) ?_
      refine xe rfl rfl ?_
      intro w_57 hC0
      have hC : Grow col_18 w_48 col_18 w_57 := .of_below hC0.below
      replace h_51 := h_51.gr hC
      replace hst := hst.grow hC
      refine l_gestore h_51 (by decide) hb_29 rfl rfl rfl ?_
      intro w_58 hk_59 hs_60 h_61
      replace hst := hst.kp hk_59 hs_60 (by decide) (by decide)
      clear h_51
      refine lnil ⟨fun w' => Grow col_18 w_58 col_18 w', Grow.refl _ _, fun h => absurd h (by decide), ?_⟩
      refine xnil ?_
      intro w_62 hC
      replace hC : Grow col_18 w_58 col_18 w_62 := .of_below hC.below
      replace h_61 := h_61.gr hC
      replace hst := hst.grow hC
      refine wseq ?_
      refine wregion ?_
      refine lv (v := (.bool true)) rfl rfl (r_assign rfl) ?_
      refine lnil ?_
      refine wret ?_
      cases hm
      exact ⟨rfl, colFL w0.heap.size [qc0] col col_18 (fun n => bif Nat.beq n 440 then qc0 else 0), rfl, hst.finL rfl (fun n => bif Nat.beq n 440 then qc0 else 0), hst.finGOL (G := (fun n => bif Nat.beq n 440 then qc0 else 0)) rfl h_61 (by decide) (by decide) rfl⟩
  · refine wregion ?_
    refine lv (v := (.pointer (some ⟨o0.g, 0, none⟩))) rfl rfl (r_move rfl) ?_
    refine lv (v := (.int .i64 p1_a)) rfl rfl (r_move rfl) ?_
    obtain ⟨r_63, hr_64, hm⟩ := bind_some hm
    refine lc rfl rfl (r_call2 Try.call54 rfl rfl) (c_graph_Graph_in (colL [qc0] col) _ 440 (by decide) o0 p0_g p1_a h0 r_63 hr_64) ?_
    rintro _ w_65 ⟨rfl, hg_66⟩
    refine ⟨_, rfl, ?_⟩
    replace hg_66 : Grow (colL [qc0] col) w0 (colL [qc0] col) w_65 := .of_below hg_66
    replace h0 := h0.gr hg_66
    replace hst := hst.grow hg_66
    refine lv (v := (.bool (!r_63))) rfl rfl (r_not r_63 rfl) ?_
    refine lv (v := (.bool (!r_63))) rfl rfl (r_move rfl) ?_
    by_cases hg_67 : (!r_63) = true
    · rw [if_pos hg_67] at hm
      refine lp (b := !r_63) 11 rfl rfl rfl rfl (by rw [hg_67]; rfl) ?_
      refine lp (b := !r_63) 11 rfl rfl rfl rfl (by rw [hg_67]; rfl) ?_
      refine lp (b := !r_63) 11 rfl rfl rfl rfl (by rw [hg_67]; rfl) ?_
      refine lp (b := !r_63) 11 rfl rfl rfl rfl (by rw [hg_67]; rfl) ?_
      refine lv (v := (.bool true)) rfl rfl (r_pickT (congrArg Value.bool hg_67) rfl) ?_
      refine lv (v := (.bool true)) rfl rfl (r_move rfl) ?_
      refine lp (b := true) 17 rfl rfl rfl rfl rfl ?_
      refine lp (b := true) 17 rfl rfl rfl rfl rfl ?_
      refine lp (b := true) 17 rfl rfl rfl rfl rfl ?_
      refine lv (v := (.bool true)) rfl rfl (r_pickT rfl rfl) ?_
      refine lv (v := (.bool true)) rfl rfl (r_move rfl) ?_
      refine lp (b := true) 22 rfl rfl rfl rfl rfl ?_
      refine lp (b := true) 22 rfl rfl rfl rfl rfl ?_
      refine lp (b := true) 22 rfl rfl rfl rfl rfl ?_
      refine lp (b := true) 22 rfl rfl rfl rfl rfl ?_
      refine lp (b := true) 22 rfl rfl rfl rfl rfl ?_
      refine lp (b := true) 22 rfl rfl rfl rfl rfl ?_
      refine lp (b := true) 22 rfl rfl rfl rfl rfl ?_
      refine lp (b := true) 22 rfl rfl rfl rfl rfl ?_
      refine lp (b := true) 22 rfl rfl rfl rfl rfl ?_
      refine lv (v := (.bool true)) rfl rfl (r_pickT rfl rfl) ?_
      refine lnil ?_
      exact ⟨(colL [qc0] col), true, hm, hst, h0, rfl, rfl, rfl, rfl, rfl⟩
    · rw [if_neg hg_67] at hm
      replace hg_67 := Bool.eq_false_iff.2 hg_67
      refine lg (b := !r_63) 11 rfl rfl rfl (by rw [hg_67]; rfl) ?_
      refine lv (v := (.pointer (some ⟨o0.g, 0, none⟩))) rfl rfl (r_move rfl) ?_
      refine lg (b := !r_63) 11 rfl rfl rfl (by rw [hg_67]; rfl) ?_
      refine lv (v := (.int .i64 p2_b)) rfl rfl (r_move rfl) ?_
      refine lg (b := !r_63) 11 rfl rfl rfl (by rw [hg_67]; rfl) ?_
      obtain ⟨r_68, hr_69, hm⟩ := bind_some hm
      refine lc rfl rfl (r_call2 Try.call54 rfl rfl) (c_graph_Graph_in (colL [qc0] col) _ 440 (by decide) o0 p0_g p2_b h0 r_68 hr_69) ?_
      rintro _ w_70 ⟨rfl, hg_71⟩
      refine ⟨_, rfl, ?_⟩
      replace hg_71 : Grow (colL [qc0] col) w_65 (colL [qc0] col) w_70 := .of_below hg_71
      replace h0 := h0.gr hg_71
      replace hst := hst.grow hg_71
      refine lg (b := !r_63) 11 rfl rfl rfl (by rw [hg_67]; rfl) ?_
      refine lv (v := (.bool (!r_68))) rfl rfl (r_not r_68 rfl) ?_
      refine lv (v := (.bool (!r_68))) rfl rfl (r_pickF (congrArg Value.bool hg_67) rfl) ?_
      refine lv (v := (.bool (!r_68))) rfl rfl (r_move rfl) ?_
      by_cases hg_72 : (!r_68) = true
      · rw [if_pos hg_72] at hm
        refine lp (b := !r_68) 17 rfl rfl rfl rfl (by rw [hg_72]; rfl) ?_
        refine lp (b := !r_68) 17 rfl rfl rfl rfl (by rw [hg_72]; rfl) ?_
        refine lp (b := !r_68) 17 rfl rfl rfl rfl (by rw [hg_72]; rfl) ?_
        refine lv (v := (.bool true)) rfl rfl (r_pickT (congrArg Value.bool hg_72) rfl) ?_
        refine lv (v := (.bool true)) rfl rfl (r_move rfl) ?_
        refine lp (b := true) 22 rfl rfl rfl rfl rfl ?_
        refine lp (b := true) 22 rfl rfl rfl rfl rfl ?_
        refine lp (b := true) 22 rfl rfl rfl rfl rfl ?_
        refine lp (b := true) 22 rfl rfl rfl rfl rfl ?_
        refine lp (b := true) 22 rfl rfl rfl rfl rfl ?_
        refine lp (b := true) 22 rfl rfl rfl rfl rfl ?_
        refine lp (b := true) 22 rfl rfl rfl rfl rfl ?_
        refine lp (b := true) 22 rfl rfl rfl rfl rfl ?_
        refine lp (b := true) 22 rfl rfl rfl rfl rfl ?_
        refine lv (v := (.bool true)) rfl rfl (r_pickT rfl rfl) ?_
        refine lnil ?_
        exact ⟨(colL [qc0] col), true, hm, hst, h0, rfl, rfl, rfl, rfl, rfl⟩
      · rw [if_neg hg_72] at hm
        replace hg_72 := Bool.eq_false_iff.2 hg_72
        refine lg (b := !r_68) 17 rfl rfl rfl (by rw [hg_72]; rfl) ?_
        refine lv (v := (.int .i64 p1_a)) rfl rfl (r_move rfl) ?_
        refine lg (b := !r_68) 17 rfl rfl rfl (by rw [hg_72]; rfl) ?_
        refine lv (v := (.int .i64 p2_b)) rfl rfl (r_move rfl) ?_
        refine lg (b := !r_68) 17 rfl rfl rfl (by rw [hg_72]; rfl) ?_
        refine lv (v := (.bool (decide (p1_a = p2_b)))) rfl rfl (r_eql p1_a p2_b rfl rfl) ?_
        refine lv (v := (.bool (decide (p1_a = p2_b)))) rfl rfl (r_pickF (congrArg Value.bool hg_72) rfl) ?_
        refine lv (v := (.bool (decide (p1_a = p2_b)))) rfl rfl (r_move rfl) ?_
        by_cases hg_73 : (decide (p1_a = p2_b)) = true
        · rw [if_pos hg_73] at hm
          refine lp (b := decide (p1_a = p2_b)) 22 rfl rfl rfl rfl (by rw [hg_73]; rfl) ?_
          refine lp (b := decide (p1_a = p2_b)) 22 rfl rfl rfl rfl (by rw [hg_73]; rfl) ?_
          refine lp (b := decide (p1_a = p2_b)) 22 rfl rfl rfl rfl (by rw [hg_73]; rfl) ?_
          refine lp (b := decide (p1_a = p2_b)) 22 rfl rfl rfl rfl (by rw [hg_73]; rfl) ?_
          refine lp (b := decide (p1_a = p2_b)) 22 rfl rfl rfl rfl (by rw [hg_73]; rfl) ?_
          refine lp (b := decide (p1_a = p2_b)) 22 rfl rfl rfl rfl (by rw [hg_73]; rfl) ?_
          refine lp (b := decide (p1_a = p2_b)) 22 rfl rfl rfl rfl (by rw [hg_73]; rfl) ?_
          refine lp (b := decide (p1_a = p2_b)) 22 rfl rfl rfl rfl (by rw [hg_73]; rfl) ?_
          refine lp (b := decide (p1_a = p2_b)) 22 rfl rfl rfl rfl (by rw [hg_73]; rfl) ?_
          refine lv (v := (.bool true)) rfl rfl (r_pickT (congrArg Value.bool hg_73) rfl) ?_
          refine lnil ?_
          exact ⟨(colL [qc0] col), true, hm, hst, h0, rfl, rfl, rfl, rfl, rfl⟩
        · rw [if_neg hg_73] at hm
          replace hg_73 := Bool.eq_false_iff.2 hg_73
          refine lg (b := decide (p1_a = p2_b)) 22 rfl rfl rfl (by rw [hg_73]; rfl) ?_
          refine lv (v := (.pointer (some ⟨o0.g, 0, none⟩))) rfl rfl (r_move rfl) ?_
          refine lg (b := decide (p1_a = p2_b)) 22 rfl rfl rfl (by rw [hg_73]; rfl) ?_
          refine lv (v := (.pointer (some ⟨o0.g, 0, none⟩))) rfl rfl (r_nilCheck rfl) ?_
          refine lg (b := decide (p1_a = p2_b)) 22 rfl rfl rfl (by rw [hg_73]; rfl) ?_
          refine lv (v := (.pointer ((some (⟨o0.g, 0, none⟩ : Addr)).map (·.add 0)))) rfl rfl (r_fieldAddr (sz := 1) (off := 0) Try.underlying85 rfl Try.sizeOf83 (by decide) rfl rfl ⟨_, _, rfl⟩) ?_
          refine lg (b := decide (p1_a = p2_b)) 22 rfl rfl rfl (by rw [hg_73]; rfl) ?_
          refine lv (v := (.slice o0.a p0_g.length o0.cap)) rfl rfl (r_ld Try.isAgg83 rfl ((h0.box.atN).nth (q := 0) (v := (.slice o0.a p0_g.length o0.cap)) rfl)) ?_
          refine lg (b := decide (p1_a = p2_b)) 22 rfl rfl rfl (by rw [hg_73]; rfl) ?_
          refine lv (v := (.int .i64 p1_a)) rfl rfl (r_move rfl) ?_
          refine lg (b := decide (p1_a = p2_b)) 22 rfl rfl rfl (by rw [hg_73]; rfl) ?_
          obtain ⟨row_74, hj_75, hm⟩ := bind_some hm
          obtain ⟨b_76, hb_77, _, hb_78⟩ := h0.blk hj_75
          refine lv (v := (sptr o0.a (Int.toNat p1_a * 1))) rfl rfl (r_idx Try.underlying83 Try.sizeOf86 rfl rfl (at?_some hj_75).1 (at?_some hj_75).2.1 (h0.addr hb_77)) ?_
          refine lg (b := decide (p1_a = p2_b)) 22 rfl rfl rfl (by rw [hg_73]; rfl) ?_
          refine lv (v := (.map (some b_76))) rfl rfl (r_ld Try.isAgg86 rfl (h0.at1 hb_77)) ?_
          refine lg (b := decide (p1_a = p2_b)) 22 rfl rfl rfl (by rw [hg_73]; rfl) ?_
          refine lv (v := (.int .i64 p2_b)) rfl rfl (r_move rfl) ?_
          refine lg (b := decide (p1_a = p2_b)) 22 rfl rfl rfl (by rw [hg_73]; rfl) ?_
          refine lv (v := (.bool (gat row_74 p2_b))) rfl rfl (r_glookup_g (h0.maps _ _ _ hb_78 (at?_some hj_75).2.2) Try.underlying86 Try.underlying3 Try.zeroValue4 rfl rfl) ?_
          refine lv (v := (.bool (gat row_74 p2_b))) rfl rfl (r_pickF (congrArg Value.bool hg_73) rfl) ?_
          refine lnil ?_
          exact ⟨(colL [qc0] col), (gat row_74 p2_b), hm, hst, h0, rfl, rfl, rfl, rfl, rfl⟩




def m_r15_Graph_point_J1 (v_4 : Bool) : Option Bool :=
  some v_4

def m_r15_Graph_point (p0_g : ((List (List Bool)))) (p1_a : Int) : Option Bool :=
  if (decide (0 ≤ p1_a)) = true then (m_r15_Graph_point_J1 (decide (p1_a < (p0_g.length : Int)))) else (m_r15_Graph_point_J1 false)

set_option maxRecDepth 100000 in
set_option maxHeartbeats 2000000 in
theorem c_r15_Graph_point (col : Col) (w0 : World) (qc0 : Nat) (qc0_1 : Nat) (hqqc0 : qc0 ≠ 0) (hqqc0_1 : qc0_1 ≠ 0) (g0 : Nat) (p0_g : ((List (List Bool)))) (a0_2 : Option Addr) (cap0_2 : Nat) (p1_a : Int) (h0_2 : Own (Rep.row 4 Rep.bool) 26 qc0_1 col w0 a0_2 cap0_2 p0_g) (hb0 : Box 102 qc0 col w0 g0 #[(.slice a0_2 p0_g.length cap0_2)]) (r : Bool) (hm : m_r15_Graph_point p0_g p1_a = some r) :
    Calls Try.prog 94 #[(.pointer (some ⟨g0, 0, none⟩)), (.int .i64 p1_a)] w0 (fun e w' => e = .returned ((.bool r)) ∧ Below w0.heap.size w0 w') := by
  refine calls_of1 4 (m := 16) (args := [(.pointer (some ⟨g0, 0, none⟩)), (.int .i64 p1_a)]) Try.func94 rfl rfl rfl rfl rfl ?_
  rw [m_r15_Graph_point.eq_1] at hm
  have hst := St.start col w0
  replace hb0 := hb0.start0 hqqc0
  replace h0_2 := h0_2.start0 hqqc0_1
  refine wseq ?_
  refine wregion ?_
  refine lv (v := (.bool false)) rfl rfl (r_assign rfl) ?_
  refine lnil ?_
  refine wseq ?_
  refine Wp.cut (fun f w_2 => ∃ (col_3 : Col) (v_4 : Bool), m_r15_Graph_point_J1 v_4 = some r ∧ St w0 (col0 col) col_3 w_2 ∧ Own (Rep.row 4 Rep.bool) 26 999 col_3 w_2 a0_2 cap0_2 p0_g ∧ Box 102 999 col_3 w_2 g0 #[(.slice a0_2 p0_g.length cap0_2)] ∧ f 4 = (.bool v_4) ∧ f 1000000 = (enc [])) ?_ ?_
  · intro f w_2 hJ
    obtain ⟨col_3, v_4, hm, hst, h0_2, hb0, hs4, hs1000000⟩ := hJ
    rw [m_r15_Graph_point_J1.eq_1] at hm
    refine .ld (d := 4) (v := (.bool v_4)) hs4 ?_
    refine .ld (d := 1000000) (v := (enc [])) hs1000000 ?_
    clear hs4 hs1000000
    refine wret ?_
    cases hm
    exact ⟨rfl, rfl, hst.below⟩
  · refine wregion ?_
    refine lv (v := (.int .i64 p1_a)) rfl rfl (r_move rfl) ?_
    refine lv (v := (.bool (decide (0 ≤ p1_a)))) rfl rfl (r_geq p1_a 0 rfl rfl) ?_
    refine lv (v := (.bool (decide (0 ≤ p1_a)))) rfl rfl (r_move rfl) ?_
    by_cases hg_5 : (decide (0 ≤ p1_a)) = true
    · rw [if_pos hg_5] at hm
      refine lg (b := decide (0 ≤ p1_a)) 7 rfl rfl rfl (by rw [hg_5]; rfl) ?_
      refine lv (v := (.int .i64 p1_a)) rfl rfl (r_move rfl) ?_
      refine lg (b := decide (0 ≤ p1_a)) 7 rfl rfl rfl (by rw [hg_5]; rfl) ?_
      refine lv (v := (.pointer (some ⟨g0, 0, none⟩))) rfl rfl (r_move rfl) ?_
      refine lg (b := decide (0 ≤ p1_a)) 7 rfl rfl rfl (by rw [hg_5]; rfl) ?_
      refine lv (v := (.pointer (some ⟨g0, 0, none⟩))) rfl rfl (r_nilCheck rfl) ?_
      refine lg (b := decide (0 ≤ p1_a)) 7 rfl rfl rfl (by rw [hg_5]; rfl) ?_
      refine lv (v := (.pointer ((some (⟨g0, 0, none⟩ : Addr)).map (·.add 0)))) rfl rfl (r_fieldAddr (sz := 1) (off := 0) Try.underlying102 rfl Try.sizeOf100 (by decide) rfl rfl ⟨_, _, rfl⟩) ?_
      refine lg (b := decide (0 ≤ p1_a)) 7 rfl rfl rfl (by rw [hg_5]; rfl) ?_
      refine lv (v := (.slice a0_2 p0_g.length cap0_2)) rfl rfl (r_ld Try.isAgg100 rfl ((hb0.atN).nth (q := 0) (v := (.slice a0_2 p0_g.length cap0_2)) rfl)) ?_
      refine lg (b := decide (0 ≤ p1_a)) 7 rfl rfl rfl (by rw [hg_5]; rfl) ?_
      refine lv (v := (.int .i64 (p0_g.length : Int))) rfl rfl (r_len Try.underlying100 rfl) ?_
      refine lg (b := decide (0 ≤ p1_a)) 7 rfl rfl rfl (by rw [hg_5]; rfl) ?_
      refine lv (v := (.bool (decide (p1_a < (p0_g.length : Int))))) rfl rfl (r_lss p1_a (p0_g.length : Int) rfl rfl) ?_
      refine lv (v := (.bool (decide (p1_a < (p0_g.length : Int))))) rfl rfl (r_pickT (congrArg Value.bool hg_5) rfl) ?_
      refine lv (v := (.bool (decide (p1_a < (p0_g.length : Int))))) rfl rfl (r_assign rfl) ?_
      refine lnil ?_
      exact ⟨(col0 col), (decide (p1_a < (p0_g.length : Int))), hm, hst, h0_2, hb0, rfl, rfl⟩
    · rw [if_neg hg_5] at hm
      replace hg_5 := Bool.eq_false_iff.2 hg_5
      refine lp (b := decide (0 ≤ p1_a)) 7 rfl rfl rfl rfl (by rw [hg_5]; rfl) ?_
      refine lp (b := decide (0 ≤ p1_a)) 7 rfl rfl rfl rfl (by rw [hg_5]; rfl) ?_
      refine lp (b := decide (0 ≤ p1_a)) 7 rfl rfl rfl rfl (by rw [hg_5]; rfl) ?_
      refine lp (b := decide (0 ≤ p1_a)) 7 rfl rfl rfl rfl (by rw [hg_5]; rfl) ?_
      refine lp (b := decide (0 ≤ p1_a)) 7 rfl rfl rfl rfl (by rw [hg_5]; rfl) ?_
      refine lp (b := decide (0 ≤ p1_a)) 7 rfl rfl rfl rfl (by rw [hg_5]; rfl) ?_
      refine lp (b := decide (0 ≤ p1_a)) 7 rfl rfl rfl rfl (by rw [hg_5]; rfl) ?_
      refine lv (v := (.bool false)) rfl rfl (r_pickF (congrArg Value.bool hg_5) rfl) ?_
      refine lv (v := (.bool false)) rfl rfl (r_assign rfl) ?_
      refine lnil ?_
      exact ⟨(col0 col), false, hm, hst, h0_2, hb0, rfl, rfl⟩




def m_r15_Graph_Join_J1 (p0_g : ((List (List Bool)))) (p1_a : Int) (p2_b : Int) (v_23 : Bool) : Option (Bool × ((List (List Bool)))) :=
  if v_23 = true then (some (false, p0_g)) else ((at? p0_g p1_a).bind fun e_24 => (at? e_24 p2_b).bind fun e_33 => (some (e_24.set (Int.toNat p2_b) true)).bind fun xs_40 => (at? (p0_g.set (Int.toNat p1_a) xs_40) p2_b).bind fun e_42 => (at? e_42 p1_a).bind fun e_51 => (some (e_42.set (Int.toNat p1_a) true)).bind fun xs_58 => some (true, (p0_g.set (Int.toNat p1_a) xs_40).set (Int.toNat p2_b) xs_58))

def m_r15_Graph_Join (p0_g : ((List (List Bool)))) (p1_a : Int) (p2_b : Int) : Option (Bool × ((List (List Bool)))) :=
  (m_r15_Graph_point p0_g p1_a).bind fun r_1 => (m_r15_Graph_point p0_g p2_b).bind fun r_5 => if (!r_1) = true then (m_r15_Graph_Join_J1 p0_g p1_a p2_b true) else (if (!r_5) = true then (m_r15_Graph_Join_J1 p0_g p1_a p2_b true) else (if (decide (p1_a = p2_b)) = true then (m_r15_Graph_Join_J1 p0_g p1_a p2_b true) else ((at? p0_g p1_a).bind fun e_63 => (at? e_63 p2_b).bind fun e_70 => m_r15_Graph_Join_J1 p0_g p1_a p2_b e_70)))

set_option maxRecDepth 100000 in
set_option maxHeartbeats 2000000 in
theorem c_r15_Graph_Join (col : Col) (w0 : World) (qc0 : Nat) (qc0_1 : Nat) (hd : dstB [qc0, qc0_1] = true) (g0 : Nat) (p0_g : ((List (List Bool)))) (a0_2 : Option Addr) (cap0_2 : Nat) (p1_a : Int) (p2_b : Int) (h0_2 : Own (Rep.row 4 Rep.bool) 26 qc0_1 col w0 a0_2 cap0_2 p0_g) (hb0 : Box 102 qc0 col w0 g0 #[(.slice a0_2 p0_g.length cap0_2)]) (r : (Bool × ((List (List Bool))))) (hm : m_r15_Graph_Join p0_g p1_a p2_b = some r) :
    Calls Try.prog 65 #[(.pointer (some ⟨g0, 0, none⟩)), (.int .i64 p1_a), (.int .i64 p2_b)] w0 (fun e w' => ∃ (col' : Col) (oa1 : Option Addr) (oc2 : Nat), e = .returned ((.bool r.1)) ∧ KeepP (pS [qc0, qc0_1]) col w0 col' w' ∧ Own (Rep.row 4 Rep.bool) 26 qc0_1 col' w' oa1 oc2 r.2 ∧ Box 102 qc0 col' w' g0 #[(.slice oa1 r.2.length oc2)]) := by
  refine calls_of1 6 (m := 56) (args := [(.pointer (some ⟨g0, 0, none⟩)), (.int .i64 p1_a), (.int .i64 p2_b)]) Try.func65 rfl rfl rfl rfl rfl ?_
  rw [m_r15_Graph_Join.eq_1] at hm
  have hst := St.startL (l := [qc0, qc0_1]) rfl col w0
  replace hb0 := hb0.startL (dst_nz hd 0 rfl) (dst_ix hd 0 rfl)
  replace h0_2 := h0_2.startL (dst_nz hd 1 rfl) (dst_ix hd 1 rfl)
  refine wseq ?_
  refine wregion ?_
  refine lv (v := (.bool false)) rfl rfl (r_assign rfl) ?_
  refine lnil ?_
  refine wseq ?_
  refine wregion ?_
  refine lv (v := (.pointer (some ⟨g0, 0, none⟩))) rfl rfl (r_move rfl) ?_
  refine lv (v := (.int .i64 p1_a)) rfl rfl (r_move rfl) ?_
  obtain ⟨r_1, hr_2, hm⟩ := bind_some hm
  refine lc rfl rfl (r_call2 Try.call94 rfl rfl) (c_r15_Graph_point (colL [qc0, qc0_1] col) _ 440 441 (by decide) (by decide) g0 p0_g a0_2 cap0_2 p1_a h0_2 hb0 r_1 hr_2) ?_
  rintro _ w_3 ⟨rfl, hg_4⟩
  refine ⟨_, rfl, ?_⟩
  replace hg_4 : Grow (colL [qc0, qc0_1] col) w0 (colL [qc0, qc0_1] col) w_3 := .of_below hg_4
  replace h0_2 := h0_2.gr hg_4
  replace hb0 := hb0.gr hg_4
  replace hst := hst.grow hg_4
  refine lv (v := (.bool r_1)) rfl rfl (r_assign rfl) ?_
  refine lnil ?_
  refine wseq ?_
  refine wregion ?_
  refine lv (v := (.pointer (some ⟨g0, 0, none⟩))) rfl rfl (r_move rfl) ?_
  refine lv (v := (.int .i64 p2_b)) rfl rfl (r_move rfl) ?_
  obtain ⟨r_5, hr_6, hm⟩ := bind_some hm
  refine lc rfl rfl (r_call2 Try.call94 rfl rfl) (c_r15_Graph_point (colL [qc0, qc0_1] col) _ 440 441 (by decide) (by decide) g0 p0_g a0_2 cap0_2 p2_b h0_2 hb0 r_5 hr_6) ?_
  rintro _ w_7 ⟨rfl, hg_8⟩
  refine ⟨_, rfl, ?_⟩
  replace hg_8 : Grow (colL [qc0, qc0_1] col) w_3 (colL [qc0, qc0_1] col) w_7 := .of_below hg_8
  replace h0_2 := h0_2.gr hg_8
  replace hb0 := hb0.gr hg_8
  replace hst := hst.grow hg_8
  refine lv (v := (.bool r_5)) rfl rfl (r_assign rfl) ?_
  refine lnil ?_
  refine wseq ?_
  refine wseq ?_
  refine Wp.cut (fun f w_21 => ∃ (col_22 : Col) (v_23 : Bool), m_r15_Graph_Join_J1 p0_g p1_a p2_b v_23 = some r ∧ St w0 (colL [qc0, qc0_1] col) col_22 w_21 ∧ Own (Rep.row 4 Rep.bool) 26 441 col_22 w_21 a0_2 cap0_2 p0_g ∧ Box 102 440 col_22 w_21 g0 #[(.slice a0_2 p0_g.length cap0_2)] ∧ f 0 = (.pointer (some ⟨g0, 0, none⟩)) ∧ f 1 = (.int .i64 p1_a) ∧ f 2 = (.int .i64 p2_b) ∧ f 37 = (.bool v_23) ∧ f 1000000 = (enc [])) ?_ ?_
  · intro f w_21 hJ
    obtain ⟨col_22, v_23, hm, hst, h0_2, hb0, hs0, hs1, hs2, hs37, hs1000000⟩ := hJ
    rw [m_r15_Graph_Join_J1.eq_1] at hm
    refine .ld (d := 0) (v := (.pointer (some ⟨g0, 0, none⟩))) hs0 ?_
    refine .ld (d := 1) (v := (.int .i64 p1_a)) hs1 ?_
    refine .ld (d := 2) (v := (.int .i64 p2_b)) hs2 ?_
    refine .ld (d := 37) (v := (.bool v_23)) hs37 ?_
    refine .ld (d := 1000000) (v := (enc [])) hs1000000 ?_
    clear hs0 hs1 hs2 hs37 hs1000000
    refine wcond (v_23) rfl (fun hb => ?_) (fun hb => ?_)
    · rw [if_pos hb] at hm
      clear hb
      refine wseq ?_
      refine wregion ?_
      refine lv (v := (.bool false)) rfl rfl (r_assign rfl) ?_
      refine lnil ?_
      refine wret ?_
      cases hm
      exact ⟨rfl, colFL w0.heap.size [qc0, qc0_1] col col_22 (fun n => bif Nat.beq n 441 then qc0_1 else bif Nat.beq n 440 then qc0 else 0), a0_2, cap0_2, rfl, hst.finL rfl (fun n => bif Nat.beq n 441 then qc0_1 else bif Nat.beq n 440 then qc0 else 0), hst.finOwnL (g := (fun n => bif Nat.beq n 441 then qc0_1 else bif Nat.beq n 440 then qc0 else 0)) rfl h0_2 (by decide) (by decide) rfl, hst.finBoxL (g := (fun n => bif Nat.beq n 441 then qc0_1 else bif Nat.beq n 440 then qc0 else 0)) hb0 (by decide) (by decide) rfl⟩
    · rw [if_neg (by rw [hb]; decide)] at hm
      clear hb
      refine wskip ?_
      refine wseq ?_
      refine wregion ?_
      refine lv (v := (.pointer (some ⟨g0, 0, none⟩))) rfl rfl (r_move rfl) ?_
      refine lv (v := (.pointer (some ⟨g0, 0, none⟩))) rfl rfl (r_nilCheck rfl) ?_
      refine lv (v := (.pointer ((some (⟨g0, 0, none⟩ : Addr)).map (·.add 0)))) rfl rfl (r_fieldAddr (sz := 1) (off := 0) Try.underlying102 rfl Try.sizeOf100 (by decide) rfl rfl ⟨_, _, rfl⟩) ?_
      refine lv (v := (.slice a0_2 p0_g.length cap0_2)) rfl rfl (r_ld Try.isAgg100 rfl ((hb0.atN).nth (q := 0) (v := (.slice a0_2 p0_g.length cap0_2)) rfl)) ?_
      refine lv (v := (.int .i64 p1_a)) rfl rfl (r_move rfl) ?_
      obtain ⟨e_24, hj_25, hm⟩ := bind_some hm
      refine lv (v := (sptr a0_2 (Int.toNat p1_a * 1))) rfl rfl (r_idx Try.underlying100 Try.sizeOf26 rfl rfl (at?_some hj_25).1 (at?_some hj_25).2.1 (h0_2.addr hj_25)) ?_
      obtain ⟨_, col_29, hk_27, hH_28, hs_26⟩ := h0_2.open_ 1 (by decide) hj_25
      replace hb0 := hb0.kpp hk_27 rfl
      replace hst := hst.kpp hk_27 rfl rfl
      obtain ⟨a_30, cap_31, rfl, h_32⟩ := hs_26.row
      clear h0_2
      replace hH_28 : Hole (Rep.row 4 Rep.bool) 26 441 col_29 w_21 a0_2 cap0_2 p0_g (Int.toNat p1_a) [(.slice a_30 e_24.length cap_31)] := hH_28
      refine lv (v := (.slice a_30 e_24.length cap_31)) rfl rfl (r_ld Try.isAgg26 rfl hH_28.atN.one) ?_
      refine lv (v := (.int .i64 p2_b)) rfl rfl (r_move rfl) ?_
      obtain ⟨e_33, hj_34, hm⟩ := bind_some hm
      refine lv (v := (sptr a_30 (Int.toNat p2_b * 1))) rfl rfl (r_idx Try.underlying26 Try.sizeOf4 rfl rfl (at?_some hj_34).1 (at?_some hj_34).2.1 (h_32.addr hj_34)) ?_
      obtain ⟨xs_40, hz_39, hm⟩ := bind_some hm
      have hz_39 : xs_40 = e_24.set (Int.toNat p2_b) true := (Option.some.inj hz_39).symm
      refine l_store (x1 := true) (v := (.bool true)) h_32 hj_34 rfl Try.sizeOf4 (rd_bool true) rfl rfl (by decide) ?_
      intro w_35 hk_36 hs_37 h_38
      rw [← hz_39] at h_38
      replace hH_28 := hH_28.kp hk_36 (by decide) (by decide)
      replace hb0 := hb0.kp hk_36 (by decide)
      replace hst := hst.kp hk_36 hs_37 (by decide) (by decide)
      replace hb0 : Box 102 440 col_29 w_35 g0 #[(.slice a0_2 p0_g.length cap0_2)] := by rw []; exact hb0
      replace hH_28 : Hole (Rep.row 4 Rep.bool) 26 441 col_29 w_35 a0_2 cap0_2 p0_g (Int.toNat p1_a) [(.slice a_30 xs_40.length cap_31)] := by rw [← (show e_24.length = xs_40.length by rw [hz_39, List.length_set])]; exact hH_28
      clear h_32
      have h_41 := hH_28.close h_38.has (by decide) (by decide)
      replace hb0 := hb0.recol 1 441 (by decide)
      replace hst := hst.recol 1 441 (by decide) (by decide)
      clear hH_28
      replace hb0 : Box 102 440 (rcC 1 441 col_29) w_35 g0 #[(.slice a0_2 ((p0_g.set (Int.toNat p1_a) xs_40).length) cap0_2)] := by rw [← (show p0_g.length = (p0_g.set (Int.toNat p1_a) xs_40).length by simp only [List.length_set])]; exact hb0
      refine lnil ?_
      refine wseq ?_
      refine wregion ?_
      refine lv (v := (.pointer (some ⟨g0, 0, none⟩))) rfl rfl (r_move rfl) ?_
      refine lv (v := (.pointer (some ⟨g0, 0, none⟩))) rfl rfl (r_nilCheck rfl) ?_
      refine lv (v := (.pointer ((some (⟨g0, 0, none⟩ : Addr)).map (·.add 0)))) rfl rfl (r_fieldAddr (sz := 1) (off := 0) Try.underlying102 rfl Try.sizeOf100 (by decide) rfl rfl ⟨_, _, rfl⟩) ?_
      refine lv (v := (.slice a0_2 ((p0_g.set (Int.toNat p1_a) xs_40).length) cap0_2)) rfl rfl (r_ld Try.isAgg100 rfl ((hb0.atN).nth (q := 0) (v := (.slice a0_2 ((p0_g.set (Int.toNat p1_a) xs_40).length) cap0_2)) rfl)) ?_
      refine lv (v := (.int .i64 p2_b)) rfl rfl (r_move rfl) ?_
      obtain ⟨e_42, hj_43, hm⟩ := bind_some hm
      refine lv (v := (sptr a0_2 (Int.toNat p2_b * 1))) rfl rfl (r_idx Try.underlying100 Try.sizeOf26 rfl rfl (at?_some hj_43).1 (at?_some hj_43).2.1 (h_41.addr hj_43)) ?_
      obtain ⟨_, col_47, hk_45, hH_46, hs_44⟩ := h_41.open_ 2 (by decide) hj_43
      replace hb0 := hb0.kpp hk_45 rfl
      replace hst := hst.kpp hk_45 rfl rfl
      obtain ⟨a_48, cap_49, rfl, h_50⟩ := hs_44.row
      clear h_41
      replace hH_46 : Hole (Rep.row 4 Rep.bool) 26 441 col_47 w_35 a0_2 cap0_2 (p0_g.set (Int.toNat p1_a) xs_40) (Int.toNat p2_b) [(.slice a_48 e_42.length cap_49)] := hH_46
      refine lv (v := (.slice a_48 e_42.length cap_49)) rfl rfl (r_ld Try.isAgg26 rfl hH_46.atN.one) ?_
      refine lv (v := (.int .i64 p1_a)) rfl rfl (r_move rfl) ?_
      obtain ⟨e_51, hj_52, hm⟩ := bind_some hm
      refine lv (v := (sptr a_48 (Int.toNat p1_a * 1))) rfl rfl (r_idx Try.underlying26 Try.sizeOf4 rfl rfl (at?_some hj_52).1 (at?_some hj_52).2.1 (h_50.addr hj_52)) ?_
      obtain ⟨xs_58, hz_57, hm⟩ := bind_some hm
      have hz_57 : xs_58 = e_42.set (Int.toNat p1_a) true := (Option.some.inj hz_57).symm
      refine l_store (x1 := true) (v := (.bool true)) h_50 hj_52 rfl Try.sizeOf4 (rd_bool true) rfl rfl (by decide) ?_
      intro w_53 hk_54 hs_55 h_56
      rw [← hz_57] at h_56
      replace hH_46 := hH_46.kp hk_54 (by decide) (by decide)
      replace hb0 := hb0.kp hk_54 (by decide)
      replace hst := hst.kp hk_54 hs_55 (by decide) (by decide)
      replace hb0 : Box 102 440 col_47 w_53 g0 #[(.slice a0_2 ((p0_g.set (Int.toNat p1_a) xs_40).length) cap0_2)] := by rw []; exact hb0
      replace hH_46 : Hole (Rep.row 4 Rep.bool) 26 441 col_47 w_53 a0_2 cap0_2 (p0_g.set (Int.toNat p1_a) xs_40) (Int.toNat p2_b) [(.slice a_48 xs_58.length cap_49)] := by rw [← (show e_42.length = xs_58.length by rw [hz_57, List.length_set])]; exact hH_46
      clear h_50
      have h_59 := hH_46.close h_56.has (by decide) (by decide)
      replace hb0 := hb0.recol 2 441 (by decide)
      replace hst := hst.recol 2 441 (by decide) (by decide)
      clear hH_46
      replace hb0 : Box 102 440 (rcC 2 441 col_47) w_53 g0 #[(.slice a0_2 (((p0_g.set (Int.toNat p1_a) xs_40).set (Int.toNat p2_b) xs_58).length) cap0_2)] := by rw [← (show (p0_g.set (Int.toNat p1_a) xs_40).length = ((p0_g.set (Int.toNat p1_a) xs_40).set (Int.toNat p2_b) xs_58).length by simp only [List.length_set])]; exact hb0
      refine lnil ?_
      refine wseq ?_
      refine wregion ?_
      refine lv (v := (.bool true)) rfl rfl (r_assign rfl) ?_
      refine lnil ?_
      refine wret ?_
      cases hm
      exact ⟨rfl, colFL w0.heap.size [qc0, qc0_1] col (rcC 2 441 col_47) (fun n => bif Nat.beq n 441 then qc0_1 else bif Nat.beq n 440 then qc0 else 0), a0_2, cap0_2, rfl, hst.finL rfl (fun n => bif Nat.beq n 441 then qc0_1 else bif Nat.beq n 440 then qc0 else 0), hst.finOwnL (g := (fun n => bif Nat.beq n 441 then qc0_1 else bif Nat.beq n 440 then qc0 else 0)) rfl h_59 (by decide) (by decide) rfl, hst.finBoxL (g := (fun n => bif Nat.beq n 441 then qc0_1 else bif Nat.beq n 440 then qc0 else 0)) hb0 (by decide) (by decide) rfl⟩
  · refine wregion ?_
    refine lv (v := (.bool r_1)) rfl rfl (r_move rfl) ?_
    refine lv (v := (.bool (!r_1))) rfl rfl (r_not r_1 rfl) ?_
    refine lv (v := (.bool (!r_1))) rfl rfl (r_move rfl) ?_
    by_cases hg_60 : (!r_1) = true
    · rw [if_pos hg_60] at hm
      refine lp (b := !r_1) 17 rfl rfl rfl rfl (by rw [hg_60]; rfl) ?_
      refine lp (b := !r_1) 17 rfl rfl rfl rfl (by rw [hg_60]; rfl) ?_
      refine lv (v := (.bool true)) rfl rfl (r_pickT (congrArg Value.bool hg_60) rfl) ?_
      refine lv (v := (.bool true)) rfl rfl (r_move rfl) ?_
      refine lp (b := true) 21 rfl rfl rfl rfl rfl ?_
      refine lp (b := true) 21 rfl rfl rfl rfl rfl ?_
      refine lp (b := true) 21 rfl rfl rfl rfl rfl ?_
      refine lv (v := (.bool true)) rfl rfl (r_pickT rfl rfl) ?_
      refine lv (v := (.bool true)) rfl rfl (r_move rfl) ?_
      refine lp (b := true) 26 rfl rfl rfl rfl rfl ?_
      refine lp (b := true) 26 rfl rfl rfl rfl rfl ?_
      refine lp (b := true) 26 rfl rfl rfl rfl rfl ?_
      refine lp (b := true) 26 rfl rfl rfl rfl rfl ?_
      refine lp (b := true) 26 rfl rfl rfl rfl rfl ?_
      refine lp (b := true) 26 rfl rfl rfl rfl rfl ?_
      refine lp (b := true) 26 rfl rfl rfl rfl rfl ?_
      refine lp (b := true) 26 rfl rfl rfl rfl rfl ?_
      refine lp (b := true) 26 rfl rfl rfl rfl rfl ?_
      refine lp (b := true) 26 rfl rfl rfl rfl rfl ?_
      refine lv (v := (.bool true)) rfl rfl (r_pickT rfl rfl) ?_
      refine lnil ?_
      exact ⟨(colL [qc0, qc0_1] col), true, hm, hst, h0_2, hb0, rfl, rfl, rfl, rfl, rfl⟩
    · rw [if_neg hg_60] at hm
      replace hg_60 := Bool.eq_false_iff.2 hg_60
      refine lg (b := !r_1) 17 rfl rfl rfl (by rw [hg_60]; rfl) ?_
      refine lv (v := (.bool r_5)) rfl rfl (r_move rfl) ?_
      refine lg (b := !r_1) 17 rfl rfl rfl (by rw [hg_60]; rfl) ?_
      refine lv (v := (.bool (!r_5))) rfl rfl (r_not r_5 rfl) ?_
      refine lv (v := (.bool (!r_5))) rfl rfl (r_pickF (congrArg Value.bool hg_60) rfl) ?_
      refine lv (v := (.bool (!r_5))) rfl rfl (r_move rfl) ?_
      by_cases hg_61 : (!r_5) = true
      · rw [if_pos hg_61] at hm
        refine lp (b := !r_5) 21 rfl rfl rfl rfl (by rw [hg_61]; rfl) ?_
        refine lp (b := !r_5) 21 rfl rfl rfl rfl (by rw [hg_61]; rfl) ?_
        refine lp (b := !r_5) 21 rfl rfl rfl rfl (by rw [hg_61]; rfl) ?_
        refine lv (v := (.bool true)) rfl rfl (r_pickT (congrArg Value.bool hg_61) rfl) ?_
        refine lv (v := (.bool true)) rfl rfl (r_move rfl) ?_
        refine lp (b := true) 26 rfl rfl rfl rfl rfl ?_
        refine lp (b := true) 26 rfl rfl rfl rfl rfl ?_
        refine lp (b := true) 26 rfl rfl rfl rfl rfl ?_
        refine lp (b := true) 26 rfl rfl rfl rfl rfl ?_
        refine lp (b := true) 26 rfl rfl rfl rfl rfl ?_
        refine lp (b := true) 26 rfl rfl rfl rfl rfl ?_
        refine lp (b := true) 26 rfl rfl rfl rfl rfl ?_
        refine lp (b := true) 26 rfl rfl rfl rfl rfl ?_
        refine lp (b := true) 26 rfl rfl rfl rfl rfl ?_
        refine lp (b := true) 26 rfl rfl rfl rfl rfl ?_
        refine lv (v := (.bool true)) rfl rfl (r_pickT rfl rfl) ?_
        refine lnil ?_
        exact ⟨(colL [qc0, qc0_1] col), true, hm, hst, h0_2, hb0, rfl, rfl, rfl, rfl, rfl⟩
      · rw [if_neg hg_61] at hm
        replace hg_61 := Bool.eq_false_iff.2 hg_61
        refine lg (b := !r_5) 21 rfl rfl rfl (by rw [hg_61]; rfl) ?_
        refine lv (v := (.int .i64 p1_a)) rfl rfl (r_move rfl) ?_
        refine lg (b := !r_5) 21 rfl rfl rfl (by rw [hg_61]; rfl) ?_
        refine lv (v := (.int .i64 p2_b)) rfl rfl (r_move rfl) ?_
        refine lg (b := !r_5) 21 rfl rfl rfl (by rw [hg_61]; rfl) ?_
        refine lv (v := (.bool (decide (p1_a = p2_b)))) rfl rfl (r_eql p1_a p2_b rfl rfl) ?_
        refine lv (v := (.bool (decide (p1_a = p2_b)))) rfl rfl (r_pickF (congrArg Value.bool hg_61) rfl) ?_
        refine lv (v := (.bool (decide (p1_a = p2_b)))) rfl rfl (r_move rfl) ?_
        by_cases hg_62 : (decide (p1_a = p2_b)) = true
        · rw [if_pos hg_62] at hm
          refine lp (b := decide (p1_a = p2_b)) 26 rfl rfl rfl rfl (by rw [hg_62]; rfl) ?_
          refine lp (b := decide (p1_a = p2_b)) 26 rfl rfl rfl rfl (by rw [hg_62]; rfl) ?_
          refine lp (b := decide (p1_a = p2_b)) 26 rfl rfl rfl rfl (by rw [hg_62]; rfl) ?_
          refine lp (b := decide (p1_a = p2_b)) 26 rfl rfl rfl rfl (by rw [hg_62]; rfl) ?_
          refine lp (b := decide (p1_a = p2_b)) 26 rfl rfl rfl rfl (by rw [hg_62]; rfl) ?_
          refine lp (b := decide (p1_a = p2_b)) 26 rfl rfl rfl rfl (by rw [hg_62]; rfl) ?_
          refine lp (b := decide (p1_a = p2_b)) 26 rfl rfl rfl rfl (by rw [hg_62]; rfl) ?_
          refine lp (b := decide (p1_a = p2_b)) 26 rfl rfl rfl rfl (by rw [hg_62]; rfl) ?_
          refine lp (b := decide (p1_a = p2_b)) 26 rfl rfl rfl rfl (by rw [hg_62]; rfl) ?_
          refine lp (b := decide (p1_a = p2_b)) 26 rfl rfl rfl rfl (by rw [hg_62]; rfl) ?_
          refine lv (v := (.bool true)) rfl rfl (r_pickT (congrArg Value.bool hg_62) rfl) ?_
          refine lnil ?_
          exact ⟨(colL [qc0, qc0_1] col), true, hm, hst, h0_2, hb0, rfl, rfl, rfl, rfl, rfl⟩
        · rw [if_neg hg_62] at hm
          replace hg_62 := Bool.eq_false_iff.2 hg_62
          refine lg (b := decide (p1_a = p2_b)) 26 rfl rfl rfl (by rw [hg_62]; rfl) ?_
          refine lv (v := (.pointer (some ⟨g0, 0, none⟩))) rfl rfl (r_move rfl) ?_
          refine lg (b := decide (p1_a = p2_b)) 26 rfl rfl rfl (by rw [hg_62]; rfl) ?_
          refine lv (v := (.pointer (some ⟨g0, 0, none⟩))) rfl rfl (r_nilCheck rfl) ?_
          refine lg (b := decide (p1_a = p2_b)) 26 rfl rfl rfl (by rw [hg_62]; rfl) ?_
          refine lv (v := (.pointer ((some (⟨g0, 0, none⟩ : Addr)).map (·.add 0)))) rfl rfl (r_fieldAddr (sz := 1) (off := 0) Try.underlying102 rfl Try.sizeOf100 (by decide) rfl rfl ⟨_, _, rfl⟩) ?_
          refine lg (b := decide (p1_a = p2_b)) 26 rfl rfl rfl (by rw [hg_62]; rfl) ?_
          refine lv (v := (.slice a0_2 p0_g.length cap0_2)) rfl rfl (r_ld Try.isAgg100 rfl ((hb0.atN).nth (q := 0) (v := (.slice a0_2 p0_g.length cap0_2)) rfl)) ?_
          refine lg (b := decide (p1_a = p2_b)) 26 rfl rfl rfl (by rw [hg_62]; rfl) ?_
          refine lv (v := (.int .i64 p1_a)) rfl rfl (r_move rfl) ?_
          refine lg (b := decide (p1_a = p2_b)) 26 rfl rfl rfl (by rw [hg_62]; rfl) ?_
          obtain ⟨e_63, hj_64, hm⟩ := bind_some hm
          refine lv (v := (sptr a0_2 (Int.toNat p1_a * 1))) rfl rfl (r_idx Try.underlying100 Try.sizeOf26 rfl rfl (at?_some hj_64).1 (at?_some hj_64).2.1 (h0_2.addr hj_64)) ?_
          refine lg (b := decide (p1_a = p2_b)) 26 rfl rfl rfl (by rw [hg_62]; rfl) ?_
          obtain ⟨_, hr_65, hA_66⟩ := h0_2.atN hj_64
          obtain ⟨a_67, cap_68, rfl, h_69⟩ := hr_65.row
          refine lv (v := (.slice a_67 e_63.length cap_68)) rfl rfl (r_ld Try.isAgg26 rfl hA_66.one) ?_
          refine lg (b := decide (p1_a = p2_b)) 26 rfl rfl rfl (by rw [hg_62]; rfl) ?_
          refine lv (v := (.int .i64 p2_b)) rfl rfl (r_move rfl) ?_
          refine lg (b := decide (p1_a = p2_b)) 26 rfl rfl rfl (by rw [hg_62]; rfl) ?_
          obtain ⟨e_70, hj_71, hm⟩ := bind_some hm
          refine lv (v := (sptr a_67 (Int.toNat p2_b * 1))) rfl rfl (r_idx Try.underlying26 Try.sizeOf4 rfl rfl (at?_some hj_71).1 (at?_some hj_71).2.1 (h_69.addr hj_71)) ?_
          refine lg (b := decide (p1_a = p2_b)) 26 rfl rfl rfl (by rw [hg_62]; rfl) ?_
          refine lv (v := (.bool e_70)) rfl rfl (r_ld Try.isAgg4 rfl (h_69.atBool hj_71)) ?_
          refine lv (v := (.bool e_70)) rfl rfl (r_pickF (congrArg Value.bool hg_62) rfl) ?_
          refine lnil ?_
          exact ⟨(colL [qc0, qc0_1] col), e_70, hm, hst, h0_2, hb0, rfl, rfl, rfl, rfl, rfl⟩




def m_l18_drawn_J1  : Option ((Option (List (List Bool))) × (Option ((List (List Bool)))) × Bool) :=
  some (none, none, false)

def m_l18_drawn_J2  : Option ((Option (List (List Bool))) × (Option ((List (List Bool)))) × Bool) :=
  some (none, none, false)

def m_l18_drawn_J4 (g_68 : List (List Bool)) (v_74 : Bool) : Option ((Option (List (List Bool))) × (Option ((List (List Bool)))) × Bool) :=
  if v_74 = true then none else (some ((some g_68), none, true))

def m_l18_drawn_L1 (N : Nat) (p0_d : (Int × (List Int))) (r_6 : Int) : Nat → Int → (List (List Bool)) → Option ((Option (List (List Bool))) × (Option ((List (List Bool)))) × Bool)
  | 0, _, _ => none
  | n_64 + 1, i_67, g_68 => if (decide ((IntKind.i64.wrap (i_67 + 1)) < (p0_d.2.length : Int))) = true then (m_l18_drawn_J4 g_68 (decide (0 < r_6))) else (m_l18_drawn_J4 g_68 false)

def m_l18_drawn_J3 (N : Nat) (p0_d : (Int × (List Int))) (r_6 : Int) (t_17 : List (List Bool)) (v_63 : Bool) : Option ((Option (List (List Bool))) × (Option ((List (List Bool)))) × Bool) :=
  if v_63 = true then (some (none, none, false)) else (m_l18_drawn_L1 N p0_d r_6 N 0 t_17)

def m_l18_drawn_J6 (p0_d : (Int × (List Int))) (r_6 : Int) (i_107 : Int) (g_108 : List (List Bool)) (v_110 : List (List Bool)) (kk_L2 : (Int → (List (List Bool)) → (List (List Bool)) → Option ((Option (List (List Bool))) × (Option ((List (List Bool)))) × Bool))) (v_118 : Bool) : Option ((Option (List (List Bool))) × (Option ((List (List Bool)))) × Bool) :=
  if v_118 = true then ((at? p0_d.2 i_107).bind fun e_119 => (at? p0_d.2 (IntKind.i64.wrap (i_107 + 1))).bind fun e_121 => (m_l18_pick e_119 r_6).bind fun r_124 => (m_l18_pick e_121 r_6).bind fun r_129 => (m_graph_Graph_Join g_108 r_124 r_129).bind fun r_134 => (m_l18_pick e_119 r_6).bind fun r_142 => (m_l18_pick e_121 r_6).bind fun r_147 => (m_r15_Graph_Join v_110 r_142 r_147).bind fun r_152 => kk_L2 (IntKind.i64.wrap (i_107 + 2)) r_134.2 r_152.2) else (some ((some g_108), (some v_110), true))

def m_l18_drawn_L2 (N : Nat) (p0_d : (Int × (List Int))) (r_6 : Int) : Nat → Int → (List (List Bool)) → (List (List Bool)) → Option ((Option (List (List Bool))) × (Option ((List (List Bool)))) × Bool)
  | 0, _, _, _ => none
  | n_104 + 1, i_107, g_108, v_110 => if (decide ((IntKind.i64.wrap (i_107 + 1)) < (p0_d.2.length : Int))) = true then (m_l18_drawn_J6 p0_d r_6 i_107 g_108 v_110 (m_l18_drawn_L2 N p0_d r_6 n_104) (decide (0 < r_6))) else (m_l18_drawn_J6 p0_d r_6 i_107 g_108 v_110 (m_l18_drawn_L2 N p0_d r_6 n_104) false)

def m_l18_drawn_J5 (N : Nat) (p0_d : (Int × (List Int))) (r_6 : Int) (t_17 : List (List Bool)) (t_52 : ((List (List Bool)))) (v_103 : Bool) : Option ((Option (List (List Bool))) × (Option ((List (List Bool)))) × Bool) :=
  if v_103 = true then (some (none, none, false)) else (m_l18_drawn_L2 N p0_d r_6 N 0 t_17 t_52)

def m_l18_drawn (N : Nat) (p0_d : (Int × (List Int))) : Option ((Option (List (List Bool))) × (Option ((List (List Bool)))) × Bool) :=
  if (decide (p0_d.1 < 0)) = true then (some (none, none, true)) else ((m_l18_pick p0_d.1 15).bind fun r_6 => (m_graph_New r_6).bind fun r_10 => optC (r_10.1) ((m_r15_New N r_6).bind fun r_21 => optC (r_21.1) (if (!decide (r_10.2 = 0)) = true then m_l18_drawn_J1 else m_l18_drawn_J1) (fun t_28 => if (!decide (r_10.2 = 0)) = true then m_l18_drawn_J2 else m_l18_drawn_J2)) (fun t_17 => (m_r15_New N r_6).bind fun r_45 => optC (r_45.1) (if (!decide (r_10.2 = 0)) = true then (m_l18_drawn_J3 N p0_d r_6 t_17 true) else (m_l18_drawn_J3 N p0_d r_6 t_17 false)) (fun t_52 => if (!decide (r_10.2 = 0)) = true then (m_l18_drawn_J5 N p0_d r_6 t_17 t_52 true) else (m_l18_drawn_J5 N p0_d r_6 t_17 t_52 false))))

set_option maxRecDepth 100000 in
set_option maxHeartbeats 2000000 in
theorem c_l18_drawn (N : Nat) (c1 : Nat) (c2 : Nat) (c3 : Nat) (col : Col) (w0 : World) (a0_0 : Option Addr) (cap0_0 : Nat) (p0_d : (Int × (List Int))) (h0_0 : Sl (Rep.int .i64) col w0 a0_0 cap0_0 p0_d.2) (r : ((Option (List (List Bool))) × (Option ((List (List Bool)))) × Bool)) (hm : m_l18_drawn N p0_d = some r) :
    Calls Try.prog 30 #[(.agg #[(.int .i64 p0_d.1), (.slice a0_0 p0_d.2.length cap0_0)])] w0 (fun e w' => ∃ (col' : Col) (rv1 : Value) (rv3 : Value), e = .returned (.tuple #[rv1, rv3, (.bool r.2.2)]) ∧ Grow col w0 col' w' ∧ optP rv1 r.1 (fun (d : List (List Bool)) => ∃ (o9 : GObj), rv1 = .pointer (some ⟨o9.g, 0, none⟩) ∧ GO 85 86 c1 col' w' o9 d) ∧ optP rv3 r.2.1 (fun (d : ((List (List Bool)))) => ∃ (g9 : Nat) (a9 : Option Addr) (cap9 : Nat), rv3 = .pointer (some ⟨g9, 0, none⟩) ∧ Box 102 c2 col' w' g9 #[(.slice a9 d.length cap9)] ∧ Own (Rep.row 4 Rep.bool) 26 c3 col' w' a9 cap9 d)) := by
  refine calls_of3 2 3 4 (m := 81) (args := [(.agg #[(.int .i64 p0_d.1), (.slice a0_0 p0_d.2.length cap0_0)])]) Try.func30 rfl rfl rfl rfl rfl ?_
  rw [m_l18_drawn.eq_1] at hm
  have hst := St.start col w0
  replace h0_0 := h0_0.keep (Stay.start col w0)
  refine wseq ?_
  refine wregion ?_
  refine l_box (col := (col0 col)) (v := (.agg #[(.int .i64 p0_d.1), (.slice a0_0 p0_d.2.length cap0_0)])) 1 rfl rfl ?_
  intro g_1 w_2 col_3 hg_4 hb_5
  replace h0_0 := h0_0.gr hg_4
  replace hst := hst.grow hg_4
  replace hb_5 : Box 59 1 col_3 w_2 g_1 #[(.int .i64 p0_d.1), (.slice a0_0 p0_d.2.length cap0_0)] := hb_5
  refine lv (v := (.pointer none)) rfl rfl (r_assign rfl) ?_
  refine lv (v := (.pointer none)) rfl rfl (r_assign rfl) ?_
  refine lv (v := (.bool false)) rfl rfl (r_assign rfl) ?_
  refine lnil ?_
  refine wseq ?_
  refine wseq ?_
  refine wregion ?_
  refine lv (v := (.pointer ((some (⟨g_1, 0, none⟩ : Addr)).map (·.add 0)))) rfl rfl (r_fieldAddr (sz := 1) (off := 0) Try.underlying59 rfl Try.sizeOf3 (by decide) rfl rfl ⟨_, _, rfl⟩) ?_
  refine lv (v := (.int .i64 p0_d.1)) rfl rfl (r_ld Try.isAgg3 rfl ((hb_5.atN).nth (q := 0) (v := (.int .i64 p0_d.1)) rfl)) ?_
  refine lv (v := (.bool (decide (p0_d.1 < 0)))) rfl rfl (r_lss p0_d.1 0 rfl rfl) ?_
  refine lnil ?_
  refine wcond (decide (p0_d.1 < 0)) rfl (fun hb => ?_) (fun hb => ?_)
  · rw [if_pos hb] at hm
    clear hb
    refine wseq ?_
    refine wregion ?_
    refine lv (v := (.pointer none)) rfl rfl (r_assign rfl) ?_
    refine lv (v := (.pointer none)) rfl rfl (r_assign rfl) ?_
    refine lv (v := (.bool true)) rfl rfl (r_assign rfl) ?_
    refine lnil ?_
    refine wret ?_
    cases hm
    exact ⟨rfl, colF w0.heap.size col col_3 (fun n => 0), (.pointer none), (.pointer none), rfl, hst.fin (fun n => 0), optP_no, optP_no⟩
  · rw [if_neg (by rw [hb]; decide)] at hm
    clear hb
    refine wskip ?_
    refine wseq ?_
    refine wregion ?_
    refine lv (v := (.pointer ((some (⟨g_1, 0, none⟩ : Addr)).map (·.add 0)))) rfl rfl (r_fieldAddr (sz := 1) (off := 0) Try.underlying59 rfl Try.sizeOf3 (by decide) rfl rfl ⟨_, _, rfl⟩) ?_
    refine lv (v := (.int .i64 p0_d.1)) rfl rfl (r_ld Try.isAgg3 rfl ((hb_5.atN).nth (q := 0) (v := (.int .i64 p0_d.1)) rfl)) ?_
    obtain ⟨r_6, hr_7, hm⟩ := bind_some hm
    refine lc rfl rfl (r_call2 Try.call48 rfl rfl) (c_l18_pick col_3 _ p0_d.1 15 r_6 hr_7) ?_
    rintro _ w_8 ⟨rfl, hg_9⟩
    refine ⟨_, rfl, ?_⟩
    replace hg_9 : Grow col_3 w_2 col_3 w_8 := .of_below hg_9
    replace h0_0 := h0_0.gr hg_9
    replace hb_5 := hb_5.gr hg_9
    replace hst := hst.grow hg_9
    refine lv (v := (.int .i64 r_6)) rfl rfl (r_assign rfl) ?_
    refine lnil ?_
    refine wseq ?_
    refine wregion ?_
    refine lv (v := (.int .i64 r_6)) rfl rfl (r_move rfl) ?_
    obtain ⟨r_10, hr_11, hm⟩ := bind_some hm
    refine lc rfl rfl (r_call1 Try.call51 rfl) (c_graph_New 2 col_3 _ r_6 r_10 hr_11) ?_
    rintro _ w_14 ⟨col_16, rv_12, rfl, hg_15, rh_13⟩
    refine ⟨_, rfl, ?_⟩
    replace h0_0 := h0_0.gr hg_15
    replace hb_5 := hb_5.gr hg_15
    replace hst := hst.grow hg_15
    cases hx_18 : r_10.1 with
    | none =>
      rw [hx_18] at hm rh_13
      replace hm := optC_none hm
      obtain rfl := optP_none rh_13
      clear rh_13
      refine lv (v := (.tuple #[(.pointer none), (.int .i64 r_10.2)])) rfl rfl (r_move rfl) ?_
      refine lv (v := (.pointer none)) rfl rfl (r_extract rfl rfl) ?_
      refine lv (v := (.int .i64 r_10.2)) rfl rfl (r_extract rfl rfl) ?_
      refine lv (v := (.pointer none)) rfl rfl (r_assign rfl) ?_
      refine lv (v := (.int .i64 r_10.2)) rfl rfl (r_assign rfl) ?_
      refine lnil ?_
      refine wseq ?_
      refine wregion ?_
      refine lv (v := (.int .i64 r_6)) rfl rfl (r_move rfl) ?_
      obtain ⟨r_21, hr_22, hm⟩ := bind_some hm
      refine lc rfl rfl (r_call1 Try.call66 rfl) (c_r15_New N 3 4 col_16 _ r_6 r_21 hr_22) ?_
      rintro _ w_25 ⟨col_27, rv_23, rfl, hg_26, rh_24⟩
      refine ⟨_, rfl, ?_⟩
      replace h0_0 := h0_0.gr hg_26
      replace hb_5 := hb_5.gr hg_26
      replace hst := hst.grow hg_26
      cases hx_29 : r_21.1 with
      | none =>
        rw [hx_29] at hm rh_24
        replace hm := optC_none hm
        obtain rfl := optP_none rh_24
        clear rh_24
        refine lv (v := (.tuple #[(.pointer none), (.int .i64 r_21.2)])) rfl rfl (r_move rfl) ?_
        refine lv (v := (.pointer none)) rfl rfl (r_extract rfl rfl) ?_
        refine lv (v := (.int .i64 r_21.2)) rfl rfl (r_extract rfl rfl) ?_
        refine lv (v := (.pointer none)) rfl rfl (r_assign rfl) ?_
        refine lv (v := (.int .i64 r_21.2)) rfl rfl (r_assign rfl) ?_
        refine lnil ?_
        refine wseq ?_
        refine wseq ?_
        refine Wp.cut (fun f w_37 => ∃ (col_38 : Col), m_l18_drawn_J1  = some r ∧ St w0 (col0 col) col_38 w_37 ∧ Sl (Rep.int .i64) col_38 w_37 a0_0 cap0_0 p0_d.2 ∧ Box 59 1 col_38 w_37 g_1 #[(.int .i64 p0_d.1), (.slice a0_0 p0_d.2.length cap0_0)] ∧ f 1 = (.pointer (some ⟨g_1, 0, none⟩)) ∧ f 32 = (.bool true) ∧ f 5 = (.int .i64 r_6) ∧ f 6 = (.pointer none) ∧ f 8 = (.pointer none) ∧ f 1000000 = (enc [])) ?_ ?_
        · intro f w_37 hJ
          obtain ⟨col_38, hm, hst, h0_0, hb_5, hs1, hs32, hs5, hs6, hs8, hs1000000⟩ := hJ
          rw [m_l18_drawn_J1.eq_1] at hm
          refine .ld (d := 1) (v := (.pointer (some ⟨g_1, 0, none⟩))) hs1 ?_
          refine .ld (d := 32) (v := (.bool true)) hs32 ?_
          refine .ld (d := 5) (v := (.int .i64 r_6)) hs5 ?_
          refine .ld (d := 6) (v := (.pointer none)) hs6 ?_
          refine .ld (d := 8) (v := (.pointer none)) hs8 ?_
          refine .ld (d := 1000000) (v := (enc [])) hs1000000 ?_
          clear hs1 hs32 hs5 hs6 hs8 hs1000000
          refine wcondT rfl ?_
          refine wseq ?_
          refine wregion ?_
          refine lv (v := (.pointer none)) rfl rfl (r_assign rfl) ?_
          refine lv (v := (.pointer none)) rfl rfl (r_assign rfl) ?_
          refine lv (v := (.bool false)) rfl rfl (r_assign rfl) ?_
          refine lnil ?_
          refine wret ?_
          cases hm
          exact ⟨rfl, colF w0.heap.size col col_38 (fun n => 0), (.pointer none), (.pointer none), rfl, hst.fin (fun n => 0), optP_no, optP_no⟩
        · refine wregion ?_
          refine lv (v := (.int .i64 r_10.2)) rfl rfl (r_move rfl) ?_
          refine lv (v := (.bool (!decide (r_10.2 = 0)))) rfl rfl (r_neq r_10.2 0 rfl rfl) ?_
          refine lv (v := (.bool (!decide (r_10.2 = 0)))) rfl rfl (r_move rfl) ?_
          by_cases hg_39 : (!decide (r_10.2 = 0)) = true
          · rw [if_pos hg_39] at hm
            refine lp (b := !decide (r_10.2 = 0)) 29 rfl rfl rfl rfl (by rw [hg_39]; rfl) ?_
            refine lp (b := !decide (r_10.2 = 0)) 29 rfl rfl rfl rfl (by rw [hg_39]; rfl) ?_
            refine lv (v := (.bool true)) rfl rfl (r_pickT (congrArg Value.bool hg_39) rfl) ?_
            refine lnil ?_
            exact ⟨col_27, hm, hst, h0_0, hb_5, rfl, rfl, rfl, rfl, rfl, rfl⟩
          · rw [if_neg hg_39] at hm
            replace hg_39 := Bool.eq_false_iff.2 hg_39
            refine lg (b := !decide (r_10.2 = 0)) 29 rfl rfl rfl (by rw [hg_39]; rfl) ?_
            refine lv (v := (.pointer none)) rfl rfl (r_move rfl) ?_
            refine lg (b := !decide (r_10.2 = 0)) 29 rfl rfl rfl (by rw [hg_39]; rfl) ?_
            refine lv (v := (.bool true)) rfl rfl (r_eqlP0 ⟨_, Try.underlying24⟩ rfl rfl) ?_
            refine lv (v := (.bool true)) rfl rfl (r_pickF (congrArg Value.bool hg_39) rfl) ?_
            refine lnil ?_
            exact ⟨col_27, hm, hst, h0_0, hb_5, rfl, rfl, rfl, rfl, rfl, rfl⟩
      | some t_28 =>
        rw [hx_29] at hm rh_24
        replace hm := optC_some hm
        obtain ⟨g_30, a_32, cap_33, rfl, hB_31, hO_34⟩ := optP_some rh_24
        refine lv (v := (.tuple #[(.pointer (some ⟨g_30, 0, none⟩)), (.int .i64 r_21.2)])) rfl rfl (r_move rfl) ?_
        refine lv (v := (.pointer (some ⟨g_30, 0, none⟩))) rfl rfl (r_extract rfl rfl) ?_
        refine lv (v := (.int .i64 r_21.2)) rfl rfl (r_extract rfl rfl) ?_
        refine lv (v := (.pointer (some ⟨g_30, 0, none⟩))) rfl rfl (r_assign rfl) ?_
        refine lv (v := (.int .i64 r_21.2)) rfl rfl (r_assign rfl) ?_
        refine lnil ?_
        refine wseq ?_
        refine wseq ?_
        refine Wp.cut (fun f w_42 => ∃ (col_43 : Col), m_l18_drawn_J2  = some r ∧ St w0 (col0 col) col_43 w_42 ∧ Sl (Rep.int .i64) col_43 w_42 a0_0 cap0_0 p0_d.2 ∧ Box 59 1 col_43 w_42 g_1 #[(.int .i64 p0_d.1), (.slice a0_0 p0_d.2.length cap0_0)] ∧ Own (Rep.row 4 Rep.bool) 26 4 col_43 w_42 a_32 cap_33 t_28 ∧ Box 102 3 col_43 w_42 g_30 #[(.slice a_32 t_28.length cap_33)] ∧ f 1 = (.pointer (some ⟨g_1, 0, none⟩)) ∧ f 32 = (.bool true) ∧ f 5 = (.int .i64 r_6) ∧ f 6 = (.pointer none) ∧ f 8 = (.pointer (some ⟨g_30, 0, none⟩)) ∧ f 1000000 = (enc [])) ?_ ?_
        · intro f w_42 hJ
          obtain ⟨col_43, hm, hst, h0_0, hb_5, hO_34, hB_31, hs1, hs32, hs5, hs6, hs8, hs1000000⟩ := hJ
          rw [m_l18_drawn_J2.eq_1] at hm
          refine .ld (d := 1) (v := (.pointer (some ⟨g_1, 0, none⟩))) hs1 ?_
          refine .ld (d := 32) (v := (.bool true)) hs32 ?_
          refine .ld (d := 5) (v := (.int .i64 r_6)) hs5 ?_
          refine .ld (d := 6) (v := (.pointer none)) hs6 ?_
          refine .ld (d := 8) (v := (.pointer (some ⟨g_30, 0, none⟩))) hs8 ?_
          refine .ld (d := 1000000) (v := (enc [])) hs1000000 ?_
          clear hs1 hs32 hs5 hs6 hs8 hs1000000
          refine wcondT rfl ?_
          refine wseq ?_
          refine wregion ?_
          refine lv (v := (.pointer none)) rfl rfl (r_assign rfl) ?_
          refine lv (v := (.pointer none)) rfl rfl (r_assign rfl) ?_
          refine lv (v := (.bool false)) rfl rfl (r_assign rfl) ?_
          refine lnil ?_
          refine wret ?_
          cases hm
          exact ⟨rfl, colF w0.heap.size col col_43 (fun n => 0), (.pointer none), (.pointer none), rfl, hst.fin (fun n => 0), optP_no, optP_no⟩
        · refine wregion ?_
          refine lv (v := (.int .i64 r_10.2)) rfl rfl (r_move rfl) ?_
          refine lv (v := (.bool (!decide (r_10.2 = 0)))) rfl rfl (r_neq r_10.2 0 rfl rfl) ?_
          refine lv (v := (.bool (!decide (r_10.2 = 0)))) rfl rfl (r_move rfl) ?_
          by_cases hg_44 : (!decide (r_10.2 = 0)) = true
          · rw [if_pos hg_44] at hm
            refine lp (b := !decide (r_10.2 = 0)) 29 rfl rfl rfl rfl (by rw [hg_44]; rfl) ?_
            refine lp (b := !decide (r_10.2 = 0)) 29 rfl rfl rfl rfl (by rw [hg_44]; rfl) ?_
            refine lv (v := (.bool true)) rfl rfl (r_pickT (congrArg Value.bool hg_44) rfl) ?_
            refine lnil ?_
            exact ⟨col_27, hm, hst, h0_0, hb_5, hO_34, hB_31, rfl, rfl, rfl, rfl, rfl, rfl⟩
          · rw [if_neg hg_44] at hm
            replace hg_44 := Bool.eq_false_iff.2 hg_44
            refine lg (b := !decide (r_10.2 = 0)) 29 rfl rfl rfl (by rw [hg_44]; rfl) ?_
            refine lv (v := (.pointer none)) rfl rfl (r_move rfl) ?_
            refine lg (b := !decide (r_10.2 = 0)) 29 rfl rfl rfl (by rw [hg_44]; rfl) ?_
            refine lv (v := (.bool true)) rfl rfl (r_eqlP0 ⟨_, Try.underlying24⟩ rfl rfl) ?_
            refine lv (v := (.bool true)) rfl rfl (r_pickF (congrArg Value.bool hg_44) rfl) ?_
            refine lnil ?_
            exact ⟨col_27, hm, hst, h0_0, hb_5, hO_34, hB_31, rfl, rfl, rfl, rfl, rfl, rfl⟩
    | some t_17 =>
      rw [hx_18] at hm rh_13
      replace hm := optC_some hm
      obtain ⟨o_19, rfl, hG_20⟩ := optP_some rh_13
      refine lv (v := (.tuple #[(.pointer (some ⟨o_19.g, 0, none⟩)), (.int .i64 r_10.2)])) rfl rfl (r_move rfl) ?_
      refine lv (v := (.pointer (some ⟨o_19.g, 0, none⟩))) rfl rfl (r_extract rfl rfl) ?_
      refine lv (v := (.int .i64 r_10.2)) rfl rfl (r_extract rfl rfl) ?_
      refine lv (v := (.pointer (some ⟨o_19.g, 0, none⟩))) rfl rfl (r_assign rfl) ?_
      refine lv (v := (.int .i64 r_10.2)) rfl rfl (r_assign rfl) ?_
      refine lnil ?_
      refine wseq ?_
      refine wregion ?_
      refine lv (v := (.int .i64 r_6)) rfl rfl (r_move rfl) ?_
      obtain ⟨r_45, hr_46, hm⟩ := bind_some hm
      refine lc rfl rfl (r_call1 Try.call66 rfl) (c_r15_New N 5 6 col_16 _ r_6 r_45 hr_46) ?_
      rintro _ w_49 ⟨col_51, rv_47, rfl, hg_50, rh_48⟩
      refine ⟨_, rfl, ?_⟩
      replace h0_0 := h0_0.gr hg_50
      replace hG_20 := hG_20.gr hg_50
      replace hb_5 := hb_5.gr hg_50
      replace hst := hst.grow hg_50
      cases hx_53 : r_45.1 with
      | none =>
        rw [hx_53] at hm rh_48
        replace hm := optC_none hm
        obtain rfl := optP_none rh_48
        clear rh_48
        refine lv (v := (.tuple #[(.pointer none), (.int .i64 r_45.2)])) rfl rfl (r_move rfl) ?_
        refine lv (v := (.pointer none)) rfl rfl (r_extract rfl rfl) ?_
        refine lv (v := (.int .i64 r_45.2)) rfl rfl (r_extract rfl rfl) ?_
        refine lv (v := (.pointer none)) rfl rfl (r_assign rfl) ?_
        refine lv (v := (.int .i64 r_45.2)) rfl rfl (r_assign rfl) ?_
        refine lnil ?_
        refine wseq ?_
        refine wseq ?_
        refine Wp.cut (fun f w_61 => ∃ (col_62 : Col) (v_63 : Bool), m_l18_drawn_J3 N p0_d r_6 t_17 v_63 = some r ∧ St w0 (col0 col) col_62 w_61 ∧ Sl (Rep.int .i64) col_62 w_61 a0_0 cap0_0 p0_d.2 ∧ Box 59 1 col_62 w_61 g_1 #[(.int .i64 p0_d.1), (.slice a0_0 p0_d.2.length cap0_0)] ∧ GO 85 86 2 col_62 w_61 o_19 t_17 ∧ f 1 = (.pointer (some ⟨g_1, 0, none⟩)) ∧ f 32 = (.bool v_63) ∧ f 5 = (.int .i64 r_6) ∧ f 6 = (.pointer (some ⟨o_19.g, 0, none⟩)) ∧ f 8 = (.pointer none) ∧ f 1000000 = (enc [])) ?_ ?_
        · intro f w_61 hJ
          obtain ⟨col_62, v_63, hm, hst, h0_0, hb_5, hG_20, hs1, hs32, hs5, hs6, hs8, hs1000000⟩ := hJ
          rw [m_l18_drawn_J3.eq_1] at hm
          refine .ld (d := 1) (v := (.pointer (some ⟨g_1, 0, none⟩))) hs1 ?_
          refine .ld (d := 32) (v := (.bool v_63)) hs32 ?_
          refine .ld (d := 5) (v := (.int .i64 r_6)) hs5 ?_
          refine .ld (d := 6) (v := (.pointer (some ⟨o_19.g, 0, none⟩))) hs6 ?_
          refine .ld (d := 8) (v := (.pointer none)) hs8 ?_
          refine .ld (d := 1000000) (v := (enc [])) hs1000000 ?_
          clear hs1 hs32 hs5 hs6 hs8 hs1000000
          refine wcond (v_63) rfl (fun hb => ?_) (fun hb => ?_)
          · rw [if_pos hb] at hm
            clear hb
            refine wseq ?_
            refine wregion ?_
            refine lv (v := (.pointer none)) rfl rfl (r_assign rfl) ?_
            refine lv (v := (.pointer none)) rfl rfl (r_assign rfl) ?_
            refine lv (v := (.bool false)) rfl rfl (r_assign rfl) ?_
            refine lnil ?_
            refine wret ?_
            cases hm
            exact ⟨rfl, colF w0.heap.size col col_62 (fun n => 0), (.pointer none), (.pointer none), rfl, hst.fin (fun n => 0), optP_no, optP_no⟩
          · rw [if_neg (by rw [hb]; decide)] at hm
            clear hb
            refine wskip ?_
            refine wseq ?_
            refine wseq ?_
            refine wregion ?_
            refine lv (v := (.int .i64 0)) rfl rfl (r_assign rfl) ?_
            refine lnil ?_
            refine wblock ?_
            refine wloop (fun n f w_65 => ∃ (col_66 : Col) (i_67 : Int) (g_68 : List (List Bool)) (n_64 : Nat), n_64 = n ∧ m_l18_drawn_L1 N p0_d r_6 n_64 i_67 g_68 = some r ∧ St w0 (col0 col) col_66 w_65 ∧ Sl (Rep.int .i64) col_66 w_65 a0_0 cap0_0 p0_d.2 ∧ Box 59 1 col_66 w_65 g_1 #[(.int .i64 p0_d.1), (.slice a0_0 p0_d.2.length cap0_0)] ∧ GO 85 86 2 col_66 w_65 o_19 g_68 ∧ f 1 = (.pointer (some ⟨g_1, 0, none⟩)) ∧ f 10 = (.int .i64 i_67) ∧ f 5 = (.int .i64 r_6) ∧ f 6 = (.pointer (some ⟨o_19.g, 0, none⟩)) ∧ f 8 = (.pointer none) ∧ f 1000000 = (enc [])) N ⟨col_62, 0, t_17, N, rfl, hm, hst, h0_0, hb_5, hG_20, rfl, rfl, rfl, rfl, rfl, rfl⟩ ?_
            clear hm; intro n f w_65 hI
            obtain ⟨col_66, i_67, g_68, n_64, hn, hm, hst, h0_0, hb_5, h_69, hs1, hs10, hs5, hs6, hs8, hs1000000⟩ := hI
            subst hn
            refine .ld (d := 1) (v := (.pointer (some ⟨g_1, 0, none⟩))) hs1 ?_
            refine .ld (d := 10) (v := (.int .i64 i_67)) hs10 ?_
            refine .ld (d := 5) (v := (.int .i64 r_6)) hs5 ?_
            refine .ld (d := 6) (v := (.pointer (some ⟨o_19.g, 0, none⟩))) hs6 ?_
            refine .ld (d := 8) (v := (.pointer none)) hs8 ?_
            refine .ld (d := 1000000) (v := (enc [])) hs1000000 ?_
            clear hs1 hs10 hs5 hs6 hs8 hs1000000
            cases n_64 with
            | zero => rw [m_l18_drawn_L1.eq_1] at hm; cases hm
            | succ n_64 =>
              rw [m_l18_drawn_L1.eq_2] at hm
              refine wseq ?_
              refine wseq ?_
              refine Wp.cut (fun f w_72 => ∃ (col_73 : Col) (v_74 : Bool), m_l18_drawn_J4 g_68 v_74 = some r ∧ St w0 (col0 col) col_73 w_72 ∧ Sl (Rep.int .i64) col_73 w_72 a0_0 cap0_0 p0_d.2 ∧ Box 59 1 col_73 w_72 g_1 #[(.int .i64 p0_d.1), (.slice a0_0 p0_d.2.length cap0_0)] ∧ GO 85 86 2 col_73 w_72 o_19 g_68 ∧ f 1 = (.pointer (some ⟨g_1, 0, none⟩)) ∧ f 10 = (.int .i64 i_67) ∧ f 42 = (.bool v_74) ∧ f 5 = (.int .i64 r_6) ∧ f 6 = (.pointer (some ⟨o_19.g, 0, none⟩)) ∧ f 8 = (.pointer none) ∧ f 1000000 = (enc [])) ?_ ?_
              · intro f w_72 hJ
                obtain ⟨col_73, v_74, hm, hst, h0_0, hb_5, h_69, hs1, hs10, hs42, hs5, hs6, hs8, hs1000000⟩ := hJ
                rw [m_l18_drawn_J4.eq_1] at hm
                refine .ld (d := 1) (v := (.pointer (some ⟨g_1, 0, none⟩))) hs1 ?_
                refine .ld (d := 10) (v := (.int .i64 i_67)) hs10 ?_
                refine .ld (d := 42) (v := (.bool v_74)) hs42 ?_
                refine .ld (d := 5) (v := (.int .i64 r_6)) hs5 ?_
                refine .ld (d := 6) (v := (.pointer (some ⟨o_19.g, 0, none⟩))) hs6 ?_
                refine .ld (d := 8) (v := (.pointer none)) hs8 ?_
                refine .ld (d := 1000000) (v := (enc [])) hs1000000 ?_
                clear hs1 hs10 hs42 hs5 hs6 hs8 hs1000000
                refine wcond (v_74) rfl (fun hb => ?_) (fun hb => ?_)
                · rw [if_pos hb] at hm
                  clear hb
                  cases hm
                · rw [if_neg (by rw [hb]; decide)] at hm
                  clear hb
                  refine wexit (inB_hit ?_)
                  refine wseq ?_
                  refine wregion ?_
                  refine lv (v := (.pointer (some ⟨o_19.g, 0, none⟩))) rfl rfl (r_move rfl) ?_
                  refine lv (v := (.pointer none)) rfl rfl (r_move rfl) ?_
                  refine lv (v := (.pointer (some ⟨o_19.g, 0, none⟩))) rfl rfl (r_assign rfl) ?_
                  refine lv (v := (.pointer none)) rfl rfl (r_assign rfl) ?_
                  refine lv (v := (.bool true)) rfl rfl (r_assign rfl) ?_
                  refine lnil ?_
                  refine wret ?_
                  cases hm
                  exact ⟨rfl, colF w0.heap.size col col_73 (fun n => bif Nat.beq n 2 then c1 else 0), (.pointer (some ⟨o_19.g, 0, none⟩)), (.pointer none), rfl, hst.fin (fun n => bif Nat.beq n 2 then c1 else 0), optP_of ⟨_, rfl, hst.finGO (G := (fun n => bif Nat.beq n 2 then c1 else 0)) rfl h_69 (by decide) (by decide) rfl⟩, optP_no⟩
              · refine wregion ?_
                refine lv (v := (.int .i64 i_67)) rfl rfl (r_move rfl) ?_
                refine lv (v := (.int .i64 (IntKind.i64.wrap (i_67 + 1)))) rfl rfl (r_add i_67 1 rfl rfl) ?_
                refine lv (v := (.pointer ((some (⟨g_1, 0, none⟩ : Addr)).map (·.add 1)))) rfl rfl (r_fieldAddr (sz := 1) (off := 1) Try.underlying59 rfl Try.sizeOf22 (by decide) rfl rfl ⟨_, _, rfl⟩) ?_
                refine lv (v := (.slice a0_0 p0_d.2.length cap0_0)) rfl rfl (r_ld Try.isAgg22 rfl ((hb_5.atN).nth (q := 1) (v := (.slice a0_0 p0_d.2.length cap0_0)) rfl)) ?_
                refine lv (v := (.int .i64 (p0_d.2.length : Int))) rfl rfl (r_len Try.underlying22 rfl) ?_
                refine lv (v := (.bool (decide ((IntKind.i64.wrap (i_67 + 1)) < (p0_d.2.length : Int))))) rfl rfl (r_lss (IntKind.i64.wrap (i_67 + 1)) (p0_d.2.length : Int) rfl rfl) ?_
                refine lv (v := (.bool (decide ((IntKind.i64.wrap (i_67 + 1)) < (p0_d.2.length : Int))))) rfl rfl (r_move rfl) ?_
                by_cases hg_97 : (decide ((IntKind.i64.wrap (i_67 + 1)) < (p0_d.2.length : Int))) = true
                · rw [if_pos hg_97] at hm
                  refine lg (b := decide ((IntKind.i64.wrap (i_67 + 1)) < (p0_d.2.length : Int))) 39 rfl rfl rfl (by rw [hg_97]; rfl) ?_
                  refine lv (v := (.int .i64 r_6)) rfl rfl (r_move rfl) ?_
                  refine lg (b := decide ((IntKind.i64.wrap (i_67 + 1)) < (p0_d.2.length : Int))) 39 rfl rfl rfl (by rw [hg_97]; rfl) ?_
                  refine lv (v := (.bool (decide (0 < r_6)))) rfl rfl (r_gtr r_6 0 rfl rfl) ?_
                  refine lv (v := (.bool (decide (0 < r_6)))) rfl rfl (r_pickT (congrArg Value.bool hg_97) rfl) ?_
                  refine lnil ?_
                  exact ⟨col_66, (decide (0 < r_6)), hm, hst, h0_0, hb_5, h_69, rfl, rfl, rfl, rfl, rfl, rfl, rfl⟩
                · rw [if_neg hg_97] at hm
                  replace hg_97 := Bool.eq_false_iff.2 hg_97
                  refine lp (b := decide ((IntKind.i64.wrap (i_67 + 1)) < (p0_d.2.length : Int))) 39 rfl rfl rfl rfl (by rw [hg_97]; rfl) ?_
                  refine lp (b := decide ((IntKind.i64.wrap (i_67 + 1)) < (p0_d.2.length : Int))) 39 rfl rfl rfl rfl (by rw [hg_97]; rfl) ?_
                  refine lv (v := (.bool false)) rfl rfl (r_pickF (congrArg Value.bool hg_97) rfl) ?_
                  refine lnil ?_
                  exact ⟨col_66, false, hm, hst, h0_0, hb_5, h_69, rfl, rfl, rfl, rfl, rfl, rfl, rfl⟩
        · refine wregion ?_
          refine lv (v := (.int .i64 r_10.2)) rfl rfl (r_move rfl) ?_
          refine lv (v := (.bool (!decide (r_10.2 = 0)))) rfl rfl (r_neq r_10.2 0 rfl rfl) ?_
          refine lv (v := (.bool (!decide (r_10.2 = 0)))) rfl rfl (r_move rfl) ?_
          by_cases hg_98 : (!decide (r_10.2 = 0)) = true
          · rw [if_pos hg_98] at hm
            refine lp (b := !decide (r_10.2 = 0)) 29 rfl rfl rfl rfl (by rw [hg_98]; rfl) ?_
            refine lp (b := !decide (r_10.2 = 0)) 29 rfl rfl rfl rfl (by rw [hg_98]; rfl) ?_
            refine lv (v := (.bool true)) rfl rfl (r_pickT (congrArg Value.bool hg_98) rfl) ?_
            refine lnil ?_
            exact ⟨col_51, true, hm, hst, h0_0, hb_5, hG_20, rfl, rfl, rfl, rfl, rfl, rfl⟩
          · rw [if_neg hg_98] at hm
            replace hg_98 := Bool.eq_false_iff.2 hg_98
            refine lg (b := !decide (r_10.2 = 0)) 29 rfl rfl rfl (by rw [hg_98]; rfl) ?_
            refine lv (v := (.pointer (some ⟨o_19.g, 0, none⟩))) rfl rfl (r_move rfl) ?_
            refine lg (b := !decide (r_10.2 = 0)) 29 rfl rfl rfl (by rw [hg_98]; rfl) ?_
            refine lv (v := (.bool false)) rfl rfl (r_eqlP1 ⟨_, Try.underlying24⟩ rfl rfl) ?_
            refine lv (v := (.bool false)) rfl rfl (r_pickF (congrArg Value.bool hg_98) rfl) ?_
            refine lnil ?_
            exact ⟨col_51, false, hm, hst, h0_0, hb_5, hG_20, rfl, rfl, rfl, rfl, rfl, rfl⟩
      | some t_52 =>
        rw [hx_53] at hm rh_48
        replace hm := optC_some hm
        obtain ⟨g_54, a_56, cap_57, rfl, hB_55, hO_58⟩ := optP_some rh_48
        refine lv (v := (.tuple #[(.pointer (some ⟨g_54, 0, none⟩)), (.int .i64 r_45.2)])) rfl rfl (r_move rfl) ?_
        refine lv (v := (.pointer (some ⟨g_54, 0, none⟩))) rfl rfl (r_extract rfl rfl) ?_
        refine lv (v := (.int .i64 r_45.2)) rfl rfl (r_extract rfl rfl) ?_
        refine lv (v := (.pointer (some ⟨g_54, 0, none⟩))) rfl rfl (r_assign rfl) ?_
        refine lv (v := (.int .i64 r_45.2)) rfl rfl (r_assign rfl) ?_
        refine lnil ?_
        refine wseq ?_
        refine wseq ?_
        refine Wp.cut (fun f w_101 => ∃ (col_102 : Col) (v_103 : Bool), m_l18_drawn_J5 N p0_d r_6 t_17 t_52 v_103 = some r ∧ St w0 (col0 col) col_102 w_101 ∧ Sl (Rep.int .i64) col_102 w_101 a0_0 cap0_0 p0_d.2 ∧ Box 59 1 col_102 w_101 g_1 #[(.int .i64 p0_d.1), (.slice a0_0 p0_d.2.length cap0_0)] ∧ GO 85 86 2 col_102 w_101 o_19 t_17 ∧ Own (Rep.row 4 Rep.bool) 26 6 col_102 w_101 a_56 cap_57 t_52 ∧ Box 102 5 col_102 w_101 g_54 #[(.slice a_56 t_52.length cap_57)] ∧ f 1 = (.pointer (some ⟨g_1, 0, none⟩)) ∧ f 32 = (.bool v_103) ∧ f 5 = (.int .i64 r_6) ∧ f 6 = (.pointer (some ⟨o_19.g, 0, none⟩)) ∧ f 8 = (.pointer (some ⟨g_54, 0, none⟩)) ∧ f 1000000 = (enc [])) ?_ ?_
        · intro f w_101 hJ
          obtain ⟨col_102, v_103, hm, hst, h0_0, hb_5, hG_20, hO_58, hB_55, hs1, hs32, hs5, hs6, hs8, hs1000000⟩ := hJ
          rw [m_l18_drawn_J5.eq_1] at hm
          refine .ld (d := 1) (v := (.pointer (some ⟨g_1, 0, none⟩))) hs1 ?_
          refine .ld (d := 32) (v := (.bool v_103)) hs32 ?_
          refine .ld (d := 5) (v := (.int .i64 r_6)) hs5 ?_
          refine .ld (d := 6) (v := (.pointer (some ⟨o_19.g, 0, none⟩))) hs6 ?_
          refine .ld (d := 8) (v := (.pointer (some ⟨g_54, 0, none⟩))) hs8 ?_
          refine .ld (d := 1000000) (v := (enc [])) hs1000000 ?_
          clear hs1 hs32 hs5 hs6 hs8 hs1000000
          refine wcond (v_103) rfl (fun hb => ?_) (fun hb => ?_)
          · rw [if_pos hb] at hm
            clear hb
            refine wseq ?_
            refine wregion ?_
            refine lv (v := (.pointer none)) rfl rfl (r_assign rfl) ?_
            refine lv (v := (.pointer none)) rfl rfl (r_assign rfl) ?_
            refine lv (v := (.bool false)) rfl rfl (r_assign rfl) ?_
            refine lnil ?_
            refine wret ?_
            cases hm
            exact ⟨rfl, colF w0.heap.size col col_102 (fun n => 0), (.pointer none), (.pointer none), rfl, hst.fin (fun n => 0), optP_no, optP_no⟩
          · rw [if_neg (by rw [hb]; decide)] at hm
            clear hb
            refine wskip ?_
            refine wseq ?_
            refine wseq ?_
            refine wregion ?_
            refine lv (v := (.int .i64 0)) rfl rfl (r_assign rfl) ?_
            refine lnil ?_
            refine wblock ?_
            refine wloop (fun n f w_105 => ∃ (col_106 : Col) (i_107 : Int) (g_108 : List (List Bool)) (a_111 : Option Addr) (cap_112 : Nat) (v_110 : List (List Bool)) (n_104 : Nat), n_104 = n ∧ m_l18_drawn_L2 N p0_d r_6 n_104 i_107 g_108 v_110 = some r ∧ St w0 (col0 col) col_106 w_105 ∧ Sl (Rep.int .i64) col_106 w_105 a0_0 cap0_0 p0_d.2 ∧ Box 59 1 col_106 w_105 g_1 #[(.int .i64 p0_d.1), (.slice a0_0 p0_d.2.length cap0_0)] ∧ GO 85 86 2 col_106 w_105 o_19 g_108 ∧ Own (Rep.row 4 Rep.bool) 26 6 col_106 w_105 a_111 cap_112 v_110 ∧ Box 102 5 col_106 w_105 g_54 #[(.slice a_111 v_110.length cap_112)] ∧ f 1 = (.pointer (some ⟨g_1, 0, none⟩)) ∧ f 10 = (.int .i64 i_107) ∧ f 5 = (.int .i64 r_6) ∧ f 6 = (.pointer (some ⟨o_19.g, 0, none⟩)) ∧ f 8 = (.pointer (some ⟨g_54, 0, none⟩)) ∧ f 1000000 = (enc [])) N ⟨col_102, 0, t_17, a_56, cap_57, t_52, N, rfl, hm, hst, h0_0, hb_5, hG_20, hO_58, hB_55, rfl, rfl, rfl, rfl, rfl, rfl⟩ ?_
            clear hm; intro n f w_105 hI
            obtain ⟨col_106, i_107, g_108, a_111, cap_112, v_110, n_104, hn, hm, hst, h0_0, hb_5, h_109, h_113, hB_55, hs1, hs10, hs5, hs6, hs8, hs1000000⟩ := hI
            subst hn
            refine .ld (d := 1) (v := (.pointer (some ⟨g_1, 0, none⟩))) hs1 ?_
            refine .ld (d := 10) (v := (.int .i64 i_107)) hs10 ?_
            refine .ld (d := 5) (v := (.int .i64 r_6)) hs5 ?_
            refine .ld (d := 6) (v := (.pointer (some ⟨o_19.g, 0, none⟩))) hs6 ?_
            refine .ld (d := 8) (v := (.pointer (some ⟨g_54, 0, none⟩))) hs8 ?_
            refine .ld (d := 1000000) (v := (enc [])) hs1000000 ?_
            clear hs1 hs10 hs5 hs6 hs8 hs1000000
            cases n_104 with
            | zero => rw [m_l18_drawn_L2.eq_1] at hm; cases hm
            | succ n_104 =>
              rw [m_l18_drawn_L2.eq_2] at hm
              refine wseq ?_
              refine wseq ?_
              refine Wp.cut (fun f w_116 => ∃ (col_117 : Col) (v_118 : Bool), m_l18_drawn_J6 p0_d r_6 i_107 g_108 v_110 (m_l18_drawn_L2 N p0_d r_6 n_104) v_118 = some r ∧ St w0 (col0 col) col_117 w_116 ∧ Sl (Rep.int .i64) col_117 w_116 a0_0 cap0_0 p0_d.2 ∧ Box 59 1 col_117 w_116 g_1 #[(.int .i64 p0_d.1), (.slice a0_0 p0_d.2.length cap0_0)] ∧ GO 85 86 2 col_117 w_116 o_19 g_108 ∧ Own (Rep.row 4 Rep.bool) 26 6 col_117 w_116 a_111 cap_112 v_110 ∧ Box 102 5 col_117 w_116 g_54 #[(.slice a_111 v_110.length cap_112)] ∧ f 1 = (.pointer (some ⟨g_1, 0, none⟩)) ∧ f 10 = (.int .i64 i_107) ∧ f 42 = (.bool v_118) ∧ f 5 = (.int .i64 r_6) ∧ f 6 = (.pointer (some ⟨o_19.g, 0, none⟩)) ∧ f 8 = (.pointer (some ⟨g_54, 0, none⟩)) ∧ f 1000000 = (enc [])) ?_ ?_
              · intro f w_116 hJ
                obtain ⟨col_117, v_118, hm, hst, h0_0, hb_5, h_109, h_113, hB_55, hs1, hs10, hs42, hs5, hs6, hs8, hs1000000⟩ := hJ
                rw [m_l18_drawn_J6.eq_1] at hm
                refine .ld (d := 1) (v := (.pointer (some ⟨g_1, 0, none⟩))) hs1 ?_
                refine .ld (d := 10) (v := (.int .i64 i_107)) hs10 ?_
                refine .ld (d := 42) (v := (.bool v_118)) hs42 ?_
                refine .ld (d := 5) (v := (.int .i64 r_6)) hs5 ?_
                refine .ld (d := 6) (v := (.pointer (some ⟨o_19.g, 0, none⟩))) hs6 ?_
                refine .ld (d := 8) (v := (.pointer (some ⟨g_54, 0, none⟩))) hs8 ?_
                refine .ld (d := 1000000) (v := (enc [])) hs1000000 ?_
                clear hs1 hs10 hs42 hs5 hs6 hs8 hs1000000
                refine wcond (v_118) rfl (fun hb => ?_) (fun hb => ?_)
                · rw [if_pos hb] at hm
                  clear hb
                  refine wskip ?_
                  refine wseq ?_
                  refine wblock ?_
                  refine wseq ?_
                  refine wmix (col := col_117) [(0, 1), (1, 1), (2, 0), (3, 1), (4, 1), (5, 0), (6, 1), (8, 1), (9, 0), (10, 1), (11, 1), (12, 1), (13, 0), (14, 1), (7, 3), (15, 3), (16, 2)] (by kernel_rfl) (by kernel_rfl) ?_
                  refine xu (v := (.pointer (some ⟨o_19.g, 0, none⟩))) rfl rfl (fun _ => r_move rfl) ?_
                  refine xu (v := (.pointer ((some (⟨g_1, 0, none⟩ : Addr)).map (·.add 1)))) rfl rfl (fun _ => r_fieldAddr (sz := 1) (off := 1) Try.underlying59 rfl Try.sizeOf22 (by decide) rfl rfl ⟨_, _, rfl⟩) ?_
                  refine xv (v := (.slice a0_0 p0_d.2.length cap0_0)) rfl rfl (fun _ hC => r_ld Try.isAgg22 rfl (((hb_5.atN).nth (q := 1) (v := (.slice a0_0 p0_d.2.length cap0_0)) rfl).gr (Grow.of_below (col := col_117) hC.below))) ?_
                  refine xu (v := (.int .i64 i_107)) rfl rfl (fun _ => r_move rfl) ?_
                  obtain ⟨e_119, hj_120, hm⟩ := bind_some hm
                  refine xu (v := (sptr a0_0 (Int.toNat i_107 * 1))) rfl rfl (fun _ => r_idx Try.underlying22 Try.sizeOf3 rfl rfl (at?_some hj_120).1 (at?_some hj_120).2.1 (h0_0.addr hj_120)) ?_
                  refine xv (v := (.int .i64 e_119)) rfl rfl (fun _ hC => r_ld Try.isAgg3 rfl ((h0_0.gr (Grow.of_below (col := col_117) hC.below)).atInt hj_120)) ?_
                  refine xu (v := (.int .i64 r_6)) rfl rfl (fun _ => r_move rfl) ?_
                  refine xu (v := (.pointer ((some (⟨g_1, 0, none⟩ : Addr)).map (·.add 1)))) rfl rfl (fun _ => r_fieldAddr (sz := 1) (off := 1) Try.underlying59 rfl Try.sizeOf22 (by decide) rfl rfl ⟨_, _, rfl⟩) ?_
                  refine xv (v := (.slice a0_0 p0_d.2.length cap0_0)) rfl rfl (fun _ hC => r_ld Try.isAgg22 rfl (((hb_5.atN).nth (q := 1) (v := (.slice a0_0 p0_d.2.length cap0_0)) rfl).gr (Grow.of_below (col := col_117) hC.below))) ?_
                  refine xu (v := (.int .i64 i_107)) rfl rfl (fun _ => r_move rfl) ?_
                  refine xu (v := (.int .i64 (IntKind.i64.wrap (i_107 + 1)))) rfl rfl (fun _ => r_add i_107 1 rfl rfl) ?_
                  obtain ⟨e_121, hj_122, hm⟩ := bind_some hm
                  refine xu (v := (sptr a0_0 (Int.toNat (IntKind.i64.wrap (i_107 + 1)) * 1))) rfl rfl (fun _ => r_idx Try.underlying22 Try.sizeOf3 rfl rfl (at?_some hj_122).1 (at?_some hj_122).2.1 (h0_0.addr hj_122)) ?_
                  refine xv (v := (.int .i64 e_121)) rfl rfl (fun _ hC => r_ld Try.isAgg3 rfl ((h0_0.gr (Grow.of_below (col := col_117) hC.below)).atInt hj_122)) ?_
                  refine xu (v := (.int .i64 r_6)) rfl rfl (fun _ => r_move rfl) ?_
                  refine xe rfl rfl ?_
                  intro w_123 hC0
                  have hC : Grow col_117 w_116 col_117 w_123 := .of_below hC0.below
                  replace h0_0 := h0_0.gr hC
                  replace h_109 := h_109.gr hC
                  replace h_113 := h_113.gr hC
                  replace hb_5 := hb_5.gr hC
                  replace hB_55 := hB_55.gr hC
                  replace hst := hst.grow hC
                  obtain ⟨r_124, hr_125, hm⟩ := bind_some hm
                  refine lc rfl rfl (r_call2 Try.call48 rfl rfl) (c_l18_pick col_117 _ e_119 r_6 r_124 hr_125) ?_
                  rintro _ w_126 ⟨rfl, hg_127⟩
                  refine ⟨_, rfl, ?_⟩
                  replace hg_127 : Grow col_117 w_123 col_117 w_126 := .of_below hg_127
                  replace h0_0 := h0_0.gr hg_127
                  replace h_109 := h_109.gr hg_127
                  replace h_113 := h_113.gr hg_127
                  replace hb_5 := hb_5.gr hg_127
                  replace hB_55 := hB_55.gr hg_127
                  replace hst := hst.grow hg_127
                  refine lnil ⟨fun w' => Grow col_117 w_126 col_117 w', Grow.refl _ _, fun _ _ h => cls hC0 hg_127 h, ?_⟩
                  refine xe rfl rfl ?_
                  intro w_128 hC0
                  have hC : Grow col_117 w_126 col_117 w_128 := .of_below hC0.below
                  replace h0_0 := h0_0.gr hC
                  replace h_109 := h_109.gr hC
                  replace h_113 := h_113.gr hC
                  replace hb_5 := hb_5.gr hC
                  replace hB_55 := hB_55.gr hC
                  replace hst := hst.grow hC
                  obtain ⟨r_129, hr_130, hm⟩ := bind_some hm
                  refine lc rfl rfl (r_call2 Try.call48 rfl rfl) (c_l18_pick col_117 _ e_121 r_6 r_129 hr_130) ?_
                  rintro _ w_131 ⟨rfl, hg_132⟩
                  refine ⟨_, rfl, ?_⟩
                  replace hg_132 : Grow col_117 w_128 col_117 w_131 := .of_below hg_132
                  replace h0_0 := h0_0.gr hg_132
                  replace h_109 := h_109.gr hg_132
                  replace h_113 := h_113.gr hg_132
                  replace hb_5 := hb_5.gr hg_132
                  replace hB_55 := hB_55.gr hg_132
                  replace hst := hst.grow hg_132
                  refine lnil ⟨fun w' => Grow col_117 w_131 col_117 w', Grow.refl _ _, fun _ _ h => cls hC0 hg_132 h, ?_⟩
                  refine xe rfl rfl ?_
                  intro w_133 hC0
                  have hC : Grow col_117 w_131 col_117 w_133 := .of_below hC0.below
                  replace h0_0 := h0_0.gr hC
                  replace h_109 := h_109.gr hC
                  replace h_113 := h_113.gr hC
                  replace hb_5 := hb_5.gr hC
                  replace hB_55 := hB_55.gr hC
                  replace hst := hst.grow hC
                  obtain ⟨r_134, hr_135, hm⟩ := bind_some hm
                  refine lc rfl rfl (r_call3 Try.call23 rfl rfl rfl) (c_graph_Graph_Join col_117 _ 2 rfl o_19 g_108 r_124 r_129 h_109 r_134 hr_135) ?_
                  rintro _ w_137 ⟨col_139, rfl, hg_138, oh_136⟩
                  refine ⟨_, rfl, ?_⟩
                  replace h0_0 := h0_0.kpp hg_138 rfl
                  replace h_113 := h_113.kpp hg_138 rfl rfl
                  replace hb_5 := hb_5.kpp hg_138 rfl
                  replace hB_55 := hB_55.kpp hg_138 rfl
                  replace hst := hst.kpp hg_138 rfl rfl
                  clear h_109
                  refine lnil ⟨fun w' => Grow col_139 w_137 col_139 w', Grow.refl _ _, fun h => absurd h (by decide), ?_⟩
                  refine xnil ?_
                  intro w_140 hC
                  replace hC : Grow col_139 w_137 col_139 w_140 := .of_below hC.below
                  replace h0_0 := h0_0.gr hC
                  replace oh_136 := oh_136.gr hC
                  replace h_113 := h_113.gr hC
                  replace hb_5 := hb_5.gr hC
                  replace hB_55 := hB_55.gr hC
                  replace hst := hst.grow hC
                  refine wmix (col := col_139) [(0, 1), (1, 1), (2, 0), (3, 1), (4, 1), (5, 0), (6, 1), (8, 1), (9, 0), (10, 1), (11, 1), (12, 1), (13, 0), (14, 1), (7, 3), (15, 3), (16, 2)] (by kernel_rfl) (by kernel_rfl) ?_
                  refine xu (v := (.pointer (some ⟨g_54, 0, none⟩))) rfl rfl (fun _ => r_move rfl) ?_
                  refine xu (v := (.pointer ((some (⟨g_1, 0, none⟩ : Addr)).map (·.add 1)))) rfl rfl (fun _ => r_fieldAddr (sz := 1) (off := 1) Try.underlying59 rfl Try.sizeOf22 (by decide) rfl rfl ⟨_, _, rfl⟩) ?_
                  refine xv (v := (.slice a0_0 p0_d.2.length cap0_0)) rfl rfl (fun _ hC => r_ld Try.isAgg22 rfl (((hb_5.atN).nth (q := 1) (v := (.slice a0_0 p0_d.2.length cap0_0)) rfl).gr (Grow.of_below (col := col_139) hC.below))) ?_
                  refine xu (v := (.int .i64 i_107)) rfl rfl (fun _ => r_move rfl) ?_
                  refine xu (v := (sptr a0_0 (Int.toNat i_107 * 1))) rfl rfl (fun _ => r_idx Try.underlying22 Try.sizeOf3 rfl rfl (at?_some hj_120).1 (at?_some hj_120).2.1 (h0_0.addr hj_120)) ?_
                  refine xv (v := (.int .i64 e_119)) rfl rfl (fun _ hC => r_ld Try.isAgg3 rfl ((h0_0.gr (Grow.of_below (col := col_139) hC.below)).atInt hj_120)) ?_
                  refine xu (v := (.int .i64 r_6)) rfl rfl (fun _ => r_move rfl) ?_
                  refine xu (v := (.pointer ((some (⟨g_1, 0, none⟩ : Addr)).map (·.add 1)))) rfl rfl (fun _ => r_fieldAddr (sz := 1) (off := 1) Try.underlying59 rfl Try.sizeOf22 (by decide) rfl rfl ⟨_, _, rfl⟩) ?_
                  refine xv (v := (.slice a0_0 p0_d.2.length cap0_0)) rfl rfl (fun _ hC => r_ld Try.isAgg22 rfl (((hb_5.atN).nth (q := 1) (v := (.slice a0_0 p0_d.2.length cap0_0)) rfl).gr (Grow.of_below (col := col_139) hC.below))) ?_
                  refine xu (v := (.int .i64 i_107)) rfl rfl (fun _ => r_move rfl) ?_
                  refine xu (v := (.int .i64 (IntKind.i64.wrap (i_107 + 1)))) rfl rfl (fun _ => r_add i_107 1 rfl rfl) ?_
                  refine xu (v := (sptr a0_0 (Int.toNat (IntKind.i64.wrap (i_107 + 1)) * 1))) rfl rfl (fun _ => r_idx Try.underlying22 Try.sizeOf3 rfl rfl (at?_some hj_122).1 (at?_some hj_122).2.1 (h0_0.addr hj_122)) ?_
                  refine xv (v := (.int .i64 e_121)) rfl rfl (fun _ hC => r_ld Try.isAgg3 rfl ((h0_0.gr (Grow.of_below (col := col_139) hC.below)).atInt hj_122)) ?_
                  refine xu (v := (.int .i64 r_6)) rfl rfl (fun _ => r_move rfl) ?_
                  refine xe rfl rfl ?_
                  intro w_141 hC0
                  have hC : Grow col_139 w_140 col_139 w_141 := .of_below hC0.below
                  replace h0_0 := h0_0.gr hC
                  replace oh_136 := oh_136.gr hC
                  replace h_113 := h_113.gr hC
                  replace hb_5 := hb_5.gr hC
                  replace hB_55 := hB_55.gr hC
                  replace hst := hst.grow hC
                  obtain ⟨r_142, hr_143, hm⟩ := bind_some hm
                  refine lc rfl rfl (r_call2 Try.call48 rfl rfl) (c_l18_pick col_139 _ e_119 r_6 r_142 hr_143) ?_
                  rintro _ w_144 ⟨rfl, hg_145⟩
                  refine ⟨_, rfl, ?_⟩
                  replace hg_145 : Grow col_139 w_141 col_139 w_144 := .of_below hg_145
                  replace h0_0 := h0_0.gr hg_145
                  replace oh_136 := oh_136.gr hg_145
                  replace h_113 := h_113.gr hg_145
                  replace hb_5 := hb_5.gr hg_145
                  replace hB_55 := hB_55.gr hg_145
                  replace hst := hst.grow hg_145
                  refine lnil ⟨fun w' => Grow col_139 w_144 col_139 w', Grow.refl _ _, fun _ _ h => cls hC0 hg_145 h, ?_⟩
                  refine xe rfl rfl ?_
                  intro w_146 hC0
                  have hC : Grow col_139 w_144 col_139 w_146 := .of_below hC0.below
                  replace h0_0 := h0_0.gr hC
                  replace oh_136 := oh_136.gr hC
                  replace h_113 := h_113.gr hC
                  replace hb_5 := hb_5.gr hC
                  replace hB_55 := hB_55.gr hC
                  replace hst := hst.grow hC
                  obtain ⟨r_147, hr_148, hm⟩ := bind_some hm
                  refine lc rfl rfl (r_call2 Try.call48 rfl rfl) (c_l18_pick col_139 _ e_121 r_6 r_147 hr_148) ?_
                  rintro _ w_149 ⟨rfl, hg_150⟩
                  refine ⟨_, rfl, ?_⟩
                  replace hg_150 : Grow col_139 w_146 col_139 w_149 := .of_below hg_150
                  replace h0_0 := h0_0.gr hg_150
                  replace oh_136 := oh_136.gr hg_150
                  replace h_113 := h_113.gr hg_150
                  replace hb_5 := hb_5.gr hg_150
                  replace hB_55 := hB_55.gr hg_150
                  replace hst := hst.grow hg_150
                  refine lnil ⟨fun w' => Grow col_139 w_149 col_139 w', Grow.refl _ _, fun _ _ h => cls hC0 hg_150 h, ?_⟩
                  refine xe rfl rfl ?_
                  intro w_151 hC0
                  have hC : Grow col_139 w_149 col_139 w_151 := .of_below hC0.below
                  replace h0_0 := h0_0.gr hC
                  replace oh_136 := oh_136.gr hC
                  replace h_113 := h_113.gr hC
                  replace hb_5 := hb_5.gr hC
                  replace hB_55 := hB_55.gr hC
                  replace hst := hst.grow hC
                  obtain ⟨r_152, hr_153, hm⟩ := bind_some hm
                  refine lc rfl rfl (r_call3 Try.call65 rfl rfl rfl) (c_r15_Graph_Join col_139 _ 5 6 rfl g_54 v_110 a_111 cap_112 r_142 r_147 h_113 hB_55 r_152 hr_153) ?_
                  rintro _ w_158 ⟨col_160, oa_154, oc_155, rfl, hg_159, oh_156, ohb_157⟩
                  refine ⟨_, rfl, ?_⟩
                  replace h0_0 := h0_0.kpp hg_159 rfl
                  replace oh_136 := oh_136.kpp hg_159 rfl rfl
                  replace hb_5 := hb_5.kpp hg_159 rfl
                  replace hst := hst.kpp hg_159 rfl rfl
                  clear hB_55
                  clear h_113
                  refine lnil ⟨fun w' => Grow col_160 w_158 col_160 w', Grow.refl _ _, fun h => absurd h (by decide), ?_⟩
                  refine xnil ?_
                  intro w_161 hC
                  replace hC : Grow col_160 w_158 col_160 w_161 := .of_below hC.below
                  replace h0_0 := h0_0.gr hC
                  replace oh_136 := oh_136.gr hC
                  replace oh_156 := oh_156.gr hC
                  replace hb_5 := hb_5.gr hC
                  replace ohb_157 := ohb_157.gr hC
                  replace hst := hst.grow hC
                  refine wregion ?_
                  refine lv (v := (.int .i64 i_107)) rfl rfl (r_move rfl) ?_
                  refine lv (v := (.int .i64 (IntKind.i64.wrap (i_107 + 2)))) rfl rfl (r_add i_107 2 rfl rfl) ?_
                  refine lv (v := (.int .i64 (IntKind.i64.wrap (i_107 + 2)))) rfl rfl (r_assign rfl) ?_
                  refine lnil ?_
                  exact ⟨n_104, by omega, ⟨col_160, (IntKind.i64.wrap (i_107 + 2)), r_134.2, oa_154, oc_155, r_152.2, n_104, rfl, hm, hst, h0_0, hb_5, oh_136, oh_156, ohb_157, rfl, rfl, rfl, rfl, rfl, rfl⟩⟩
                · rw [if_neg (by rw [hb]; decide)] at hm
                  clear hb
                  refine wexit (inB_hit ?_)
                  refine wseq ?_
                  refine wregion ?_
                  refine lv (v := (.pointer (some ⟨o_19.g, 0, none⟩))) rfl rfl (r_move rfl) ?_
                  refine lv (v := (.pointer (some ⟨g_54, 0, none⟩))) rfl rfl (r_move rfl) ?_
                  refine lv (v := (.pointer (some ⟨o_19.g, 0, none⟩))) rfl rfl (r_assign rfl) ?_
                  refine lv (v := (.pointer (some ⟨g_54, 0, none⟩))) rfl rfl (r_assign rfl) ?_
                  refine lv (v := (.bool true)) rfl rfl (r_assign rfl) ?_
                  refine lnil ?_
                  refine wret ?_
                  cases hm
                  exact ⟨rfl, colF w0.heap.size col col_117 (fun n => bif Nat.beq n 2 then c1 else bif Nat.beq n 5 then c2 else bif Nat.beq n 6 then c3 else 0), (.pointer (some ⟨o_19.g, 0, none⟩)), (.pointer (some ⟨g_54, 0, none⟩)), rfl, hst.fin (fun n => bif Nat.beq n 2 then c1 else bif Nat.beq n 5 then c2 else bif Nat.beq n 6 then c3 else 0), optP_of ⟨_, rfl, hst.finGO (G := (fun n => bif Nat.beq n 2 then c1 else bif Nat.beq n 5 then c2 else bif Nat.beq n 6 then c3 else 0)) rfl h_109 (by decide) (by decide) rfl⟩, optP_of ⟨g_54, a_111, cap_112, rfl, hst.finBox (G := (fun n => bif Nat.beq n 2 then c1 else bif Nat.beq n 5 then c2 else bif Nat.beq n 6 then c3 else 0)) hB_55 (by decide) (by decide) rfl, hst.finOwn (g := (fun n => bif Nat.beq n 2 then c1 else bif Nat.beq n 5 then c2 else bif Nat.beq n 6 then c3 else 0)) rfl h_113 (by decide) (by decide) rfl⟩⟩
              · refine wregion ?_
                refine lv (v := (.int .i64 i_107)) rfl rfl (r_move rfl) ?_
                refine lv (v := (.int .i64 (IntKind.i64.wrap (i_107 + 1)))) rfl rfl (r_add i_107 1 rfl rfl) ?_
                refine lv (v := (.pointer ((some (⟨g_1, 0, none⟩ : Addr)).map (·.add 1)))) rfl rfl (r_fieldAddr (sz := 1) (off := 1) Try.underlying59 rfl Try.sizeOf22 (by decide) rfl rfl ⟨_, _, rfl⟩) ?_
                refine lv (v := (.slice a0_0 p0_d.2.length cap0_0)) rfl rfl (r_ld Try.isAgg22 rfl ((hb_5.atN).nth (q := 1) (v := (.slice a0_0 p0_d.2.length cap0_0)) rfl)) ?_
                refine lv (v := (.int .i64 (p0_d.2.length : Int))) rfl rfl (r_len Try.underlying22 rfl) ?_
                refine lv (v := (.bool (decide ((IntKind.i64.wrap (i_107 + 1)) < (p0_d.2.length : Int))))) rfl rfl (r_lss (IntKind.i64.wrap (i_107 + 1)) (p0_d.2.length : Int) rfl rfl) ?_
                refine lv (v := (.bool (decide ((IntKind.i64.wrap (i_107 + 1)) < (p0_d.2.length : Int))))) rfl rfl (r_move rfl) ?_
                by_cases hg_162 : (decide ((IntKind.i64.wrap (i_107 + 1)) < (p0_d.2.length : Int))) = true
                · rw [if_pos hg_162] at hm
                  refine lg (b := decide ((IntKind.i64.wrap (i_107 + 1)) < (p0_d.2.length : Int))) 39 rfl rfl rfl (by rw [hg_162]; rfl) ?_
                  refine lv (v := (.int .i64 r_6)) rfl rfl (r_move rfl) ?_
                  refine lg (b := decide ((IntKind.i64.wrap (i_107 + 1)) < (p0_d.2.length : Int))) 39 rfl rfl rfl (by rw [hg_162]; rfl) ?_
                  refine lv (v := (.bool (decide (0 < r_6)))) rfl rfl (r_gtr r_6 0 rfl rfl) ?_
                  refine lv (v := (.bool (decide (0 < r_6)))) rfl rfl (r_pickT (congrArg Value.bool hg_162) rfl) ?_
                  refine lnil ?_
                  exact ⟨col_106, (decide (0 < r_6)), hm, hst, h0_0, hb_5, h_109, h_113, hB_55, rfl, rfl, rfl, rfl, rfl, rfl, rfl⟩
                · rw [if_neg hg_162] at hm
                  replace hg_162 := Bool.eq_false_iff.2 hg_162
                  refine lp (b := decide ((IntKind.i64.wrap (i_107 + 1)) < (p0_d.2.length : Int))) 39 rfl rfl rfl rfl (by rw [hg_162]; rfl) ?_
                  refine lp (b := decide ((IntKind.i64.wrap (i_107 + 1)) < (p0_d.2.length : Int))) 39 rfl rfl rfl rfl (by rw [hg_162]; rfl) ?_
                  refine lv (v := (.bool false)) rfl rfl (r_pickF (congrArg Value.bool hg_162) rfl) ?_
                  refine lnil ?_
                  exact ⟨col_106, false, hm, hst, h0_0, hb_5, h_109, h_113, hB_55, rfl, rfl, rfl, rfl, rfl, rfl, rfl⟩
        · refine wregion ?_
          refine lv (v := (.int .i64 r_10.2)) rfl rfl (r_move rfl) ?_
          refine lv (v := (.bool (!decide (r_10.2 = 0)))) rfl rfl (r_neq r_10.2 0 rfl rfl) ?_
          refine lv (v := (.bool (!decide (r_10.2 = 0)))) rfl rfl (r_move rfl) ?_
          by_cases hg_163 : (!decide (r_10.2 = 0)) = true
          · rw [if_pos hg_163] at hm
            refine lp (b := !decide (r_10.2 = 0)) 29 rfl rfl rfl rfl (by rw [hg_163]; rfl) ?_
            refine lp (b := !decide (r_10.2 = 0)) 29 rfl rfl rfl rfl (by rw [hg_163]; rfl) ?_
            refine lv (v := (.bool true)) rfl rfl (r_pickT (congrArg Value.bool hg_163) rfl) ?_
            refine lnil ?_
            exact ⟨col_51, true, hm, hst, h0_0, hb_5, hG_20, hO_58, hB_55, rfl, rfl, rfl, rfl, rfl, rfl⟩
          · rw [if_neg hg_163] at hm
            replace hg_163 := Bool.eq_false_iff.2 hg_163
            refine lg (b := !decide (r_10.2 = 0)) 29 rfl rfl rfl (by rw [hg_163]; rfl) ?_
            refine lv (v := (.pointer (some ⟨o_19.g, 0, none⟩))) rfl rfl (r_move rfl) ?_
            refine lg (b := !decide (r_10.2 = 0)) 29 rfl rfl rfl (by rw [hg_163]; rfl) ?_
            refine lv (v := (.bool false)) rfl rfl (r_eqlP1 ⟨_, Try.underlying24⟩ rfl rfl) ?_
            refine lv (v := (.bool false)) rfl rfl (r_pickF (congrArg Value.bool hg_163) rfl) ?_
            refine lnil ?_
            exact ⟨col_51, false, hm, hst, h0_0, hb_5, hG_20, hO_58, hB_55, rfl, rfl, rfl, rfl, rfl, rfl⟩




def m_order_wrong_v0n (p1_l : (List Int)) : Option Int :=
  some 2

set_option maxRecDepth 100000 in
set_option maxHeartbeats 2000000 in
theorem c_order_wrong_v0n (col : Col) (w0 : World) (a1 : Option Addr) (cap1 : Nat) (p1_l : (List Int)) (h1 : Sl (Rep.int .i64) col w0 a1 cap1 p1_l) (r : Int) (hm : m_order_wrong_v0n p1_l = some r) :
    Calls Try.prog 75 #[(.pointer none), (.slice a1 p1_l.length cap1)] w0 (fun e w' => e = .returned ((.int .i64 r)) ∧ Below w0.heap.size w0 w') := by
  refine calls_of1 4 (m := 32) (args := [(.pointer none), (.slice a1 p1_l.length cap1)]) Try.func75 rfl rfl rfl rfl rfl ?_
  rw [m_order_wrong_v0n.eq_1] at hm
  have hst := St.start col w0
  replace h1 := h1.keep (Stay.start col w0)
  refine wseq ?_
  refine wregion ?_
  refine lv (v := (.int .i64 0)) rfl rfl (r_assign rfl) ?_
  refine lnil ?_
  refine wseq ?_
  refine wseq ?_
  refine wregion ?_
  refine lv (v := (.pointer none)) rfl rfl (r_move rfl) ?_
  refine lv (v := (.bool true)) rfl rfl (r_eqlP0 ⟨_, Try.underlying24⟩ rfl rfl) ?_
  refine lnil ?_
  refine wcondT rfl ?_
  refine wseq ?_
  refine wregion ?_
  refine lv (v := (.int .i64 2)) rfl rfl (r_assign rfl) ?_
  refine lnil ?_
  refine wret ?_
  cases hm
  exact ⟨rfl, rfl, hst.below⟩




def m_order_by_v0n_v2f16 (p1_points : (List Int)) : Option ((List Int) × Int) :=
  (m_order_wrong_v0n p1_points).bind fun r_1 => some (([] : List Int), 2)

set_option maxRecDepth 100000 in
set_option maxHeartbeats 2000000 in
theorem c_order_by_v0n_v2f16 (c1 : Nat) (col : Col) (w0 : World) (a1 : Option Addr) (cap1 : Nat) (p1_points : (List Int)) (h1 : Sl (Rep.int .i64) col w0 a1 cap1 p1_points) (r : ((List Int) × Int)) (hm : m_order_by_v0n_v2f16 p1_points = some r) :
    Calls Try.prog 71 #[(.pointer none), (.slice a1 p1_points.length cap1), (.func (.func 16) #[] #[])] w0 (fun e w' => ∃ (col' : Col) (ra1 : Option Addr) (rc2 : Nat), e = .returned (.tuple #[(.slice ra1 r.1.length rc2), (.int .i64 r.2)]) ∧ Grow col w0 col' w' ∧ Own (Rep.int .i64) 3 c1 col' w' ra1 rc2 r.1) := by
  refine calls_of2 6 7 (m := 75) (args := [(.pointer none), (.slice a1 p1_points.length cap1), (.func (.func 16) #[] #[])]) Try.func71 rfl rfl rfl rfl rfl ?_
  rw [m_order_by_v0n_v2f16.eq_1] at hm
  have hst := St.start col w0
  replace h1 := h1.keep (Stay.start col w0)
  refine wseq ?_
  refine wregion ?_
  refine lv (v := (.slice none (([] : List Int).length) 0)) rfl rfl (r_assign rfl) ?_
  refine lv (v := (.int .i64 0)) rfl rfl (r_assign rfl) ?_
  refine lnil ?_
  refine wseq ?_
  refine wseq ?_
  refine wregion ?_
  refine lv (v := (.pointer none)) rfl rfl (r_move rfl) ?_
  refine lv (v := (.slice a1 p1_points.length cap1)) rfl rfl (r_move rfl) ?_
  obtain ⟨r_1, hr_2, hm⟩ := bind_some hm
  obtain rfl : r_1 = 2 := (Option.some.inj (show some 2 = some r_1 from hr_2)).symm
  refine lc rfl rfl (r_call2 Try.call75 rfl rfl) (c_order_wrong_v0n (col0 col) _ a1 cap1 p1_points h1 (2 : Int) hr_2) ?_
  rintro _ w_3 ⟨rfl, hg_4⟩
  refine ⟨_, rfl, ?_⟩
  replace hg_4 : Grow (col0 col) w0 (col0 col) w_3 := .of_below hg_4
  replace h1 := h1.gr hg_4
  replace hst := hst.grow hg_4
  refine lv (v := (.int .i64 2)) rfl rfl (r_assign rfl) ?_
  refine lnil ?_
  refine wseq ?_
  refine wregion ?_
  refine lv (v := (.int .i64 2)) rfl rfl (r_move rfl) ?_
  refine lv (v := (.bool true)) rfl rfl (r_neq 2 0 rfl rfl) ?_
  refine lnil ?_
  refine wcondT rfl ?_
  refine wseq ?_
  refine wregion ?_
  refine lv (v := (.int .i64 2)) rfl rfl (r_move rfl) ?_
  refine lv (v := (.slice none (([] : List Int).length) 0)) rfl rfl (r_assign rfl) ?_
  refine lv (v := (.int .i64 2)) rfl rfl (r_assign rfl) ?_
  refine lnil ?_
  refine wret ?_
  cases hm
  exact ⟨rfl, colF w0.heap.size col (col0 col) (fun n => 0), none, 0, rfl, hst.fin (fun n => 0), Own.nil⟩




def m_order_Fill_v0n (p1_points : (List Int)) : Option ((List Int) × Int) :=
  (m_order_by_v0n_v2f16 p1_points).bind fun r_1 => some (r_1.1, r_1.2)

set_option maxRecDepth 100000 in
set_option maxHeartbeats 2000000 in
theorem c_order_Fill_v0n (c1 : Nat) (col : Col) (w0 : World) (a1 : Option Addr) (cap1 : Nat) (p1_points : (List Int)) (h1 : Sl (Rep.int .i64) col w0 a1 cap1 p1_points) (r : ((List Int) × Int)) (hm : m_order_Fill_v0n p1_points = some r) :
    Calls Try.prog 32 #[(.pointer none), (.slice a1 p1_points.length cap1)] w0 (fun e w' => ∃ (col' : Col) (ra1 : Option Addr) (rc2 : Nat), e = .returned (.tuple #[(.slice ra1 r.1.length rc2), (.int .i64 r.2)]) ∧ Grow col w0 col' w' ∧ Own (Rep.int .i64) 3 c1 col' w' ra1 rc2 r.1) := by
  refine calls_of2 4 5 (m := 11) (args := [(.pointer none), (.slice a1 p1_points.length cap1)]) Try.func32 rfl rfl rfl rfl rfl ?_
  rw [m_order_Fill_v0n.eq_1] at hm
  have hst := St.start col w0
  replace h1 := h1.keep (Stay.start col w0)
  refine wseq ?_
  refine wregion ?_
  refine lv (v := (.slice none (([] : List Int).length) 0)) rfl rfl (r_assign rfl) ?_
  refine lv (v := (.int .i64 0)) rfl rfl (r_assign rfl) ?_
  refine lnil ?_
  refine wseq ?_
  refine wregion ?_
  refine lv (v := (.pointer none)) rfl rfl (r_move rfl) ?_
  refine lv (v := (.slice a1 p1_points.length cap1)) rfl rfl (r_move rfl) ?_
  obtain ⟨r_1, hr_2, hm⟩ := bind_some hm
  refine lc rfl rfl (r_call3 Try.call71 rfl rfl rfl) (c_order_by_v0n_v2f16 1 (col0 col) _ a1 cap1 p1_points h1 r_1 hr_2) ?_
  rintro _ w_6 ⟨col_8, ra_3, rc_4, rfl, hg_7, rh_5⟩
  refine ⟨_, rfl, ?_⟩
  replace h1 := h1.gr hg_7
  replace hst := hst.grow hg_7
  refine lv (v := (.slice ra_3 r_1.1.length rc_4)) rfl rfl (r_extract rfl rfl) ?_
  refine lv (v := (.int .i64 r_1.2)) rfl rfl (r_extract rfl rfl) ?_
  refine lv (v := (.slice ra_3 r_1.1.length rc_4)) rfl rfl (r_assign rfl) ?_
  refine lv (v := (.int .i64 r_1.2)) rfl rfl (r_assign rfl) ?_
  refine lnil ?_
  refine wret ?_
  cases hm
  exact ⟨rfl, colF w0.heap.size col col_8 (fun n => bif Nat.beq n 1 then c1 else 0), ra_3, rc_4, rfl, hst.fin (fun n => bif Nat.beq n 1 then c1 else 0), hst.finOwn (g := (fun n => bif Nat.beq n 1 then c1 else 0)) rfl rh_5 (by decide) (by decide) rfl⟩




def m_order_by_v0n_v2f72 (p1_points : (List Int)) : Option ((List Int) × Int) :=
  (m_order_wrong_v0n p1_points).bind fun r_1 => some (([] : List Int), 2)

set_option maxRecDepth 100000 in
set_option maxHeartbeats 2000000 in
theorem c_order_by_v0n_v2f72 (c1 : Nat) (col : Col) (w0 : World) (a1 : Option Addr) (cap1 : Nat) (p1_points : (List Int)) (h1 : Sl (Rep.int .i64) col w0 a1 cap1 p1_points) (r : ((List Int) × Int)) (hm : m_order_by_v0n_v2f72 p1_points = some r) :
    Calls Try.prog 71 #[(.pointer none), (.slice a1 p1_points.length cap1), (.func (.func 72) #[] #[])] w0 (fun e w' => ∃ (col' : Col) (ra1 : Option Addr) (rc2 : Nat), e = .returned (.tuple #[(.slice ra1 r.1.length rc2), (.int .i64 r.2)]) ∧ Grow col w0 col' w' ∧ Own (Rep.int .i64) 3 c1 col' w' ra1 rc2 r.1) := by
  refine calls_of2 6 7 (m := 75) (args := [(.pointer none), (.slice a1 p1_points.length cap1), (.func (.func 72) #[] #[])]) Try.func71 rfl rfl rfl rfl rfl ?_
  rw [m_order_by_v0n_v2f72.eq_1] at hm
  have hst := St.start col w0
  replace h1 := h1.keep (Stay.start col w0)
  refine wseq ?_
  refine wregion ?_
  refine lv (v := (.slice none (([] : List Int).length) 0)) rfl rfl (r_assign rfl) ?_
  refine lv (v := (.int .i64 0)) rfl rfl (r_assign rfl) ?_
  refine lnil ?_
  refine wseq ?_
  refine wseq ?_
  refine wregion ?_
  refine lv (v := (.pointer none)) rfl rfl (r_move rfl) ?_
  refine lv (v := (.slice a1 p1_points.length cap1)) rfl rfl (r_move rfl) ?_
  obtain ⟨r_1, hr_2, hm⟩ := bind_some hm
  obtain rfl : r_1 = 2 := (Option.some.inj (show some 2 = some r_1 from hr_2)).symm
  refine lc rfl rfl (r_call2 Try.call75 rfl rfl) (c_order_wrong_v0n (col0 col) _ a1 cap1 p1_points h1 (2 : Int) hr_2) ?_
  rintro _ w_3 ⟨rfl, hg_4⟩
  refine ⟨_, rfl, ?_⟩
  replace hg_4 : Grow (col0 col) w0 (col0 col) w_3 := .of_below hg_4
  replace h1 := h1.gr hg_4
  replace hst := hst.grow hg_4
  refine lv (v := (.int .i64 2)) rfl rfl (r_assign rfl) ?_
  refine lnil ?_
  refine wseq ?_
  refine wregion ?_
  refine lv (v := (.int .i64 2)) rfl rfl (r_move rfl) ?_
  refine lv (v := (.bool true)) rfl rfl (r_neq 2 0 rfl rfl) ?_
  refine lnil ?_
  refine wcondT rfl ?_
  refine wseq ?_
  refine wregion ?_
  refine lv (v := (.int .i64 2)) rfl rfl (r_move rfl) ?_
  refine lv (v := (.slice none (([] : List Int).length) 0)) rfl rfl (r_assign rfl) ?_
  refine lv (v := (.int .i64 2)) rfl rfl (r_assign rfl) ?_
  refine lnil ?_
  refine wret ?_
  cases hm
  exact ⟨rfl, colF w0.heap.size col (col0 col) (fun n => 0), none, 0, rfl, hst.fin (fun n => 0), Own.nil⟩




def m_order_Degree_v0n (p1_points : (List Int)) : Option ((List Int) × Int) :=
  (m_order_by_v0n_v2f72 p1_points).bind fun r_1 => some (r_1.1, r_1.2)

set_option maxRecDepth 100000 in
set_option maxHeartbeats 2000000 in
theorem c_order_Degree_v0n (c1 : Nat) (col : Col) (w0 : World) (a1 : Option Addr) (cap1 : Nat) (p1_points : (List Int)) (h1 : Sl (Rep.int .i64) col w0 a1 cap1 p1_points) (r : ((List Int) × Int)) (hm : m_order_Degree_v0n p1_points = some r) :
    Calls Try.prog 33 #[(.pointer none), (.slice a1 p1_points.length cap1)] w0 (fun e w' => ∃ (col' : Col) (ra1 : Option Addr) (rc2 : Nat), e = .returned (.tuple #[(.slice ra1 r.1.length rc2), (.int .i64 r.2)]) ∧ Grow col w0 col' w' ∧ Own (Rep.int .i64) 3 c1 col' w' ra1 rc2 r.1) := by
  refine calls_of2 4 5 (m := 11) (args := [(.pointer none), (.slice a1 p1_points.length cap1)]) Try.func33 rfl rfl rfl rfl rfl ?_
  rw [m_order_Degree_v0n.eq_1] at hm
  have hst := St.start col w0
  replace h1 := h1.keep (Stay.start col w0)
  refine wseq ?_
  refine wregion ?_
  refine lv (v := (.slice none (([] : List Int).length) 0)) rfl rfl (r_assign rfl) ?_
  refine lv (v := (.int .i64 0)) rfl rfl (r_assign rfl) ?_
  refine lnil ?_
  refine wseq ?_
  refine wregion ?_
  refine lv (v := (.pointer none)) rfl rfl (r_move rfl) ?_
  refine lv (v := (.slice a1 p1_points.length cap1)) rfl rfl (r_move rfl) ?_
  obtain ⟨r_1, hr_2, hm⟩ := bind_some hm
  refine lc rfl rfl (r_call3 Try.call71 rfl rfl rfl) (c_order_by_v0n_v2f72 1 (col0 col) _ a1 cap1 p1_points h1 r_1 hr_2) ?_
  rintro _ w_6 ⟨col_8, ra_3, rc_4, rfl, hg_7, rh_5⟩
  refine ⟨_, rfl, ?_⟩
  replace h1 := h1.gr hg_7
  replace hst := hst.grow hg_7
  refine lv (v := (.slice ra_3 r_1.1.length rc_4)) rfl rfl (r_extract rfl rfl) ?_
  refine lv (v := (.int .i64 r_1.2)) rfl rfl (r_extract rfl rfl) ?_
  refine lv (v := (.slice ra_3 r_1.1.length rc_4)) rfl rfl (r_assign rfl) ?_
  refine lv (v := (.int .i64 r_1.2)) rfl rfl (r_assign rfl) ?_
  refine lnil ?_
  refine wret ?_
  cases hm
  exact ⟨rfl, colF w0.heap.size col col_8 (fun n => bif Nat.beq n 1 then c1 else 0), ra_3, rc_4, rfl, hst.fin (fun n => bif Nat.beq n 1 then c1 else 0), hst.finOwn (g := (fun n => bif Nat.beq n 1 then c1 else 0)) rfl rh_5 (by decide) (by decide) rfl⟩




def m_order_Cliques_v0n (p1_order : (List Int)) : Option ((List (List Int)) × Int) :=
  (m_order_wrong_v0n p1_order).bind fun r_1 => some (([] : List (List Int)), 2)

set_option maxRecDepth 100000 in
set_option maxHeartbeats 2000000 in
theorem c_order_Cliques_v0n (c1 : Nat) (col : Col) (w0 : World) (a1 : Option Addr) (cap1 : Nat) (p1_order : (List Int)) (h1 : Sl (Rep.int .i64) col w0 a1 cap1 p1_order) (r : ((List (List Int)) × Int)) (hm : m_order_Cliques_v0n p1_order = some r) :
    Calls Try.prog 40 #[(.pointer none), (.slice a1 p1_order.length cap1)] w0 (fun e w' => ∃ (col' : Col) (ra1 : Option Addr) (rc2 : Nat), e = .returned (.tuple #[(.slice ra1 r.1.length rc2), (.int .i64 r.2)]) ∧ Grow col w0 col' w' ∧ Own (Rep.row 3 (Rep.int .i64)) 22 c1 col' w' ra1 rc2 r.1) := by
  refine calls_of2 4 5 (m := 39) (args := [(.pointer none), (.slice a1 p1_order.length cap1)]) Try.func40 rfl rfl rfl rfl rfl ?_
  rw [m_order_Cliques_v0n.eq_1] at hm
  have hst := St.start col w0
  replace h1 := h1.keep (Stay.start col w0)
  refine wseq ?_
  refine wregion ?_
  refine lv (v := (.slice none (([] : List (List Int)).length) 0)) rfl rfl (r_assign rfl) ?_
  refine lv (v := (.int .i64 0)) rfl rfl (r_assign rfl) ?_
  refine lnil ?_
  refine wseq ?_
  refine wseq ?_
  refine wregion ?_
  refine lv (v := (.pointer none)) rfl rfl (r_move rfl) ?_
  refine lv (v := (.slice a1 p1_order.length cap1)) rfl rfl (r_move rfl) ?_
  obtain ⟨r_1, hr_2, hm⟩ := bind_some hm
  obtain rfl : r_1 = 2 := (Option.some.inj (show some 2 = some r_1 from hr_2)).symm
  refine lc rfl rfl (r_call2 Try.call75 rfl rfl) (c_order_wrong_v0n (col0 col) _ a1 cap1 p1_order h1 (2 : Int) hr_2) ?_
  rintro _ w_3 ⟨rfl, hg_4⟩
  refine ⟨_, rfl, ?_⟩
  replace hg_4 : Grow (col0 col) w0 (col0 col) w_3 := .of_below hg_4
  replace h1 := h1.gr hg_4
  replace hst := hst.grow hg_4
  refine lv (v := (.int .i64 2)) rfl rfl (r_assign rfl) ?_
  refine lnil ?_
  refine wseq ?_
  refine wregion ?_
  refine lv (v := (.int .i64 2)) rfl rfl (r_move rfl) ?_
  refine lv (v := (.bool true)) rfl rfl (r_neq 2 0 rfl rfl) ?_
  refine lnil ?_
  refine wcondT rfl ?_
  refine wseq ?_
  refine wregion ?_
  refine lv (v := (.int .i64 2)) rfl rfl (r_move rfl) ?_
  refine lv (v := (.slice none (([] : List (List Int)).length) 0)) rfl rfl (r_assign rfl) ?_
  refine lv (v := (.int .i64 2)) rfl rfl (r_assign rfl) ?_
  refine lnil ?_
  refine wret ?_
  cases hm
  exact ⟨rfl, colF w0.heap.size col (col0 col) (fun n => 0), none, 0, rfl, hst.fin (fun n => 0), Own.nil⟩




def m_order_Width_v0n_L1 (r_1 : ((List (List Int)) × Int)) : List (List Int) → Int → Option (Int × Int)
  | [], most_13 => some (IntKind.i64.wrap (most_13 - 1), r_1.2)
  | x_14 :: l_15, most_13 => (m_order_Width_v0n_L1 r_1 l_15) (if (x_14.length : Int) > most_13 then (x_14.length : Int) else most_13)

def m_order_Width_v0n (p1_order : (List Int)) : Option (Int × Int) :=
  (m_order_Cliques_v0n p1_order).bind fun r_1 => m_order_Width_v0n_L1 r_1 r_1.1 1

set_option maxRecDepth 100000 in
set_option maxHeartbeats 2000000 in
theorem c_order_Width_v0n (col : Col) (w0 : World) (a1 : Option Addr) (cap1 : Nat) (p1_order : (List Int)) (h1 : Sl (Rep.int .i64) col w0 a1 cap1 p1_order) (r : (Int × Int)) (hm : m_order_Width_v0n p1_order = some r) :
    Calls Try.prog 42 #[(.pointer none), (.slice a1 p1_order.length cap1)] w0 (fun e w' => e = .returned (.tuple #[(.int .i64 r.1), (.int .i64 r.2)]) ∧ Below w0.heap.size w0 w') := by
  refine calls_of2 4 5 (m := 31) (args := [(.pointer none), (.slice a1 p1_order.length cap1)]) Try.func42 rfl rfl rfl rfl rfl ?_
  rw [m_order_Width_v0n.eq_1] at hm
  have hst := St.start col w0
  replace h1 := h1.keep (Stay.start col w0)
  refine wseq ?_
  refine wregion ?_
  refine lv (v := (.int .i64 0)) rfl rfl (r_assign rfl) ?_
  refine lv (v := (.int .i64 0)) rfl rfl (r_assign rfl) ?_
  refine lnil ?_
  refine wseq ?_
  refine wregion ?_
  refine lv (v := (.pointer none)) rfl rfl (r_move rfl) ?_
  refine lv (v := (.slice a1 p1_order.length cap1)) rfl rfl (r_move rfl) ?_
  obtain ⟨r_1, hr_2, hm⟩ := bind_some hm
  refine lc rfl rfl (r_call2 Try.call40 rfl rfl) (c_order_Cliques_v0n 1 (col0 col) _ a1 cap1 p1_order h1 r_1 hr_2) ?_
  rintro _ w_6 ⟨col_8, ra_3, rc_4, rfl, hg_7, rh_5⟩
  refine ⟨_, rfl, ?_⟩
  replace h1 := h1.gr hg_7
  replace hst := hst.grow hg_7
  refine lv (v := (.tuple #[(.slice ra_3 r_1.1.length rc_4), (.int .i64 r_1.2)])) rfl rfl (r_move rfl) ?_
  refine lv (v := (.slice ra_3 r_1.1.length rc_4)) rfl rfl (r_extract rfl rfl) ?_
  refine lv (v := (.int .i64 r_1.2)) rfl rfl (r_extract rfl rfl) ?_
  refine lv (v := (.slice ra_3 r_1.1.length rc_4)) rfl rfl (r_assign rfl) ?_
  refine lv (v := (.int .i64 r_1.2)) rfl rfl (r_assign rfl) ?_
  refine lnil ?_
  refine wseq ?_
  refine wregion ?_
  refine lv (v := (.int .i64 1)) rfl rfl (r_assign rfl) ?_
  refine lnil ?_
  refine wseq ?_
  refine wseq ?_
  refine wregion ?_
  refine lv (v := (.slice ra_3 r_1.1.length rc_4)) rfl rfl (r_move rfl) ?_
  refine lv (v := (.int .i64 (r_1.1.length : Int))) rfl rfl (r_len Try.underlying33 rfl) ?_
  refine lv (v := (.int .i64 0)) rfl rfl (r_move rfl) ?_
  refine lnil ?_
  refine wblock ?_
  refine wloop (fun n f w_11 => ∃ (col_12 : Col) (k_9 : Nat) (most_13 : Int) (l_10 : List (List Int)), n = l_10.length ∧ r_1.1.drop k_9 = l_10 ∧ m_order_Width_v0n_L1 r_1 l_10 most_13 = some r ∧ St w0 (col0 col) col_12 w_11 ∧ Own (Rep.row 3 (Rep.int .i64)) 22 1 col_12 w_11 ra_3 rc_4 r_1.1 ∧ f 19 = (.int .i64 (k_9 : Int)) ∧ f 17 = (.slice ra_3 r_1.1.length rc_4) ∧ f 18 = (.int .i64 (r_1.1.length : Int)) ∧ f 7 = (.int .i64 r_1.2) ∧ f 8 = (.int .i64 most_13) ∧ f 1000000 = (enc [])) r_1.1.length ⟨col_8, 0, 1, r_1.1, rfl, rfl, hm, hst, rh_5, rfl, rfl, rfl, rfl, rfl, rfl⟩ ?_
  clear hm; intro n f w_11 hI
  obtain ⟨col_12, k_9, most_13, l_10, hn, hl, hm, hst, rh_5, hs19, hs17, hs18, hs7, hs8, hs1000000⟩ := hI
  subst hn
  refine .ld (d := 19) (v := (.int .i64 (k_9 : Int))) hs19 ?_
  refine .ld (d := 17) (v := (.slice ra_3 r_1.1.length rc_4)) hs17 ?_
  refine .ld (d := 18) (v := (.int .i64 (r_1.1.length : Int))) hs18 ?_
  refine .ld (d := 7) (v := (.int .i64 r_1.2)) hs7 ?_
  refine .ld (d := 8) (v := (.int .i64 most_13)) hs8 ?_
  refine .ld (d := 1000000) (v := (enc [])) hs1000000 ?_
  clear hs19 hs17 hs18 hs7 hs8 hs1000000
  cases l_10 with
  | nil =>
    have hk : ¬ ((k_9 : Int) < (r_1.1.length : Int)) := by have := List.drop_eq_nil_iff.1 hl; omega
    have hkb := decide_eq_false hk
    rw [m_order_Width_v0n_L1.eq_1] at hm
    refine wseq ?_
    refine wregion ?_
    refine lv (v := (.bool (decide ((k_9 : Int) < (r_1.1.length : Int))))) rfl rfl (r_lss (k_9 : Int) (r_1.1.length : Int) rfl rfl) ?_
    refine lnil ?_
    refine wseq ?_
    refine wcondF (congrArg Value.bool hkb) ?_
    refine wexit (inB_hit ?_)
    refine wseq ?_
    refine wregion ?_
    refine lv (v := (.int .i64 most_13)) rfl rfl (r_move rfl) ?_
    refine lv (v := (.int .i64 (IntKind.i64.wrap (most_13 - 1)))) rfl rfl (r_sub most_13 1 rfl rfl) ?_
    refine lv (v := (.int .i64 r_1.2)) rfl rfl (r_move rfl) ?_
    refine lv (v := (.int .i64 (IntKind.i64.wrap (most_13 - 1)))) rfl rfl (r_assign rfl) ?_
    refine lv (v := (.int .i64 r_1.2)) rfl rfl (r_assign rfl) ?_
    refine lnil ?_
    refine wret ?_
    cases hm
    exact ⟨rfl, rfl, hst.below⟩
  | cons x_14 l_15 =>
    obtain ⟨hat, hl2, hlt⟩ := drop_get hl
    have hk : (k_9 : Int) < (r_1.1.length : Int) := by omega
    have hkb := decide_eq_true hk
    rw [m_order_Width_v0n_L1.eq_2] at hm
    refine wseq ?_
    refine wregion ?_
    refine lv (v := (.bool (decide ((k_9 : Int) < (r_1.1.length : Int))))) rfl rfl (r_lss (k_9 : Int) (r_1.1.length : Int) rfl rfl) ?_
    refine lnil ?_
    refine wseq ?_
    refine wcondT (congrArg Value.bool hkb) ?_
    refine wskip ?_
    refine wseq ?_
    refine wblock ?_
    refine wseq ?_
    refine wregion ?_
    refine lv (v := (sptr ra_3 (Int.toNat (k_9 : Int) * 1))) rfl rfl (r_idx Try.underlying33 Try.sizeOf22 rfl rfl (at?_some hat).1 (at?_some hat).2.1 (rh_5.addr hat)) ?_
    obtain ⟨_, hr_16, hA_17⟩ := rh_5.atN hat
    obtain ⟨a_18, cap_19, rfl, h_20⟩ := hr_16.row
    refine lv (v := (.slice a_18 x_14.length cap_19)) rfl rfl (r_ld Try.isAgg22 rfl hA_17.one) ?_
    refine lv (v := (.slice a_18 x_14.length cap_19)) rfl rfl (r_assign rfl) ?_
    refine lnil ?_
    refine wregion ?_
    refine lv (v := (.int .i64 most_13)) rfl rfl (r_move rfl) ?_
    refine lv (v := (.slice a_18 x_14.length cap_19)) rfl rfl (r_move rfl) ?_
    refine lv (v := (.int .i64 (x_14.length : Int))) rfl rfl (r_len Try.underlying22 rfl) ?_
    refine lv (v := (.int .i64 (if (x_14.length : Int) > most_13 then (x_14.length : Int) else most_13))) rfl rfl (r_max most_13 (x_14.length : Int) rfl rfl) ?_
    refine lv (v := (.int .i64 (if (x_14.length : Int) > most_13 then (x_14.length : Int) else most_13))) rfl rfl (r_assign rfl) ?_
    refine lnil ?_
    refine wregion ?_
    refine lv (v := (.int .i64 (IntKind.i64.wrap ((k_9 : Int) + 1)))) rfl rfl (r_add (k_9 : Int) 1 rfl rfl) ?_
    refine lv (v := (.int .i64 (IntKind.i64.wrap ((k_9 : Int) + 1)))) rfl rfl (r_move rfl) ?_
    refine lnil ?_
    exact ⟨l_15.length, by simp, ⟨col_12, (k_9 + 1), (if (x_14.length : Int) > most_13 then (x_14.length : Int) else most_13), l_15, rfl, hl2, hm, hst, rh_5, (congrArg (Value.int .i64) (wrap_succ (Nat.lt_of_lt_of_le hlt rh_5.len))), rfl, rfl, rfl, rfl, rfl⟩⟩




def m_r15_Ints_L1 (N : Nat) (p0_a : (List Int)) (p1_b : (List Int)) : Nat → Int → Option Bool
  | 0, _ => none
  | n_1 + 1, i_4 => if (decide (i_4 < (p0_a.length : Int))) = true then ((at? p0_a i_4).bind fun e_5 => (at? p1_b i_4).bind fun e_7 => if (!decide (e_5 = e_7)) = true then (some false) else ((m_r15_Ints_L1 N p0_a p1_b n_1) (IntKind.i64.wrap (i_4 + 1)))) else (some true)

def m_r15_Ints (N : Nat) (p0_a : (List Int)) (p1_b : (List Int)) : Option Bool :=
  if (!decide ((p0_a.length : Int) = (p1_b.length : Int))) = true then (some false) else (m_r15_Ints_L1 N p0_a p1_b N 0)

set_option maxRecDepth 100000 in
set_option maxHeartbeats 2000000 in
theorem c_r15_Ints (N : Nat) (col : Col) (w0 : World) (a0 : Option Addr) (cap0 : Nat) (p0_a : (List Int)) (a1 : Option Addr) (cap1 : Nat) (p1_b : (List Int)) (h0 : Sl (Rep.int .i64) col w0 a0 cap0 p0_a) (h1 : Sl (Rep.int .i64) col w0 a1 cap1 p1_b) (r : Bool) (hm : m_r15_Ints N p0_a p1_b = some r) :
    Calls Try.prog 36 #[(.slice a0 p0_a.length cap0), (.slice a1 p1_b.length cap1)] w0 (fun e w' => e = .returned ((.bool r)) ∧ Below w0.heap.size w0 w') := by
  refine calls_of1 4 (m := 26) (args := [(.slice a0 p0_a.length cap0), (.slice a1 p1_b.length cap1)]) Try.func36 rfl rfl rfl rfl rfl ?_
  rw [m_r15_Ints.eq_1] at hm
  have hst := St.start col w0
  replace h0 := h0.keep (Stay.start col w0)
  replace h1 := h1.keep (Stay.start col w0)
  refine wseq ?_
  refine wregion ?_
  refine lv (v := (.bool false)) rfl rfl (r_assign rfl) ?_
  refine lnil ?_
  refine wseq ?_
  refine wseq ?_
  refine wregion ?_
  refine lv (v := (.slice a0 p0_a.length cap0)) rfl rfl (r_move rfl) ?_
  refine lv (v := (.int .i64 (p0_a.length : Int))) rfl rfl (r_len Try.underlying22 rfl) ?_
  refine lv (v := (.slice a1 p1_b.length cap1)) rfl rfl (r_move rfl) ?_
  refine lv (v := (.int .i64 (p1_b.length : Int))) rfl rfl (r_len Try.underlying22 rfl) ?_
  refine lv (v := (.bool (!decide ((p0_a.length : Int) = (p1_b.length : Int))))) rfl rfl (r_neq (p0_a.length : Int) (p1_b.length : Int) rfl rfl) ?_
  refine lnil ?_
  refine wcond (!decide ((p0_a.length : Int) = (p1_b.length : Int))) rfl (fun hb => ?_) (fun hb => ?_)
  · rw [if_pos hb] at hm
    clear hb
    refine wseq ?_
    refine wregion ?_
    refine lv (v := (.bool false)) rfl rfl (r_assign rfl) ?_
    refine lnil ?_
    refine wret ?_
    cases hm
    exact ⟨rfl, rfl, hst.below⟩
  · rw [if_neg (by rw [hb]; decide)] at hm
    clear hb
    refine wskip ?_
    refine wseq ?_
    refine wseq ?_
    refine wregion ?_
    refine lv (v := (.int .i64 0)) rfl rfl (r_assign rfl) ?_
    refine lnil ?_
    refine wblock ?_
    refine wloop (fun n f w_2 => ∃ (col_3 : Col) (i_4 : Int) (n_1 : Nat), n_1 = n ∧ m_r15_Ints_L1 N p0_a p1_b n_1 i_4 = some r ∧ St w0 (col0 col) col_3 w_2 ∧ Sl (Rep.int .i64) col_3 w_2 a0 cap0 p0_a ∧ Sl (Rep.int .i64) col_3 w_2 a1 cap1 p1_b ∧ f 0 = (.slice a0 p0_a.length cap0) ∧ f 1 = (.slice a1 p1_b.length cap1) ∧ f 5 = (.int .i64 i_4) ∧ f 1000000 = (enc [])) N ⟨(col0 col), 0, N, rfl, hm, hst, h0, h1, rfl, rfl, rfl, rfl⟩ ?_
    clear hm; intro n f w_2 hI
    obtain ⟨col_3, i_4, n_1, hn, hm, hst, h0, h1, hs0, hs1, hs5, hs1000000⟩ := hI
    subst hn
    refine .ld (d := 0) (v := (.slice a0 p0_a.length cap0)) hs0 ?_
    refine .ld (d := 1) (v := (.slice a1 p1_b.length cap1)) hs1 ?_
    refine .ld (d := 5) (v := (.int .i64 i_4)) hs5 ?_
    refine .ld (d := 1000000) (v := (enc [])) hs1000000 ?_
    clear hs0 hs1 hs5 hs1000000
    cases n_1 with
    | zero => rw [m_r15_Ints_L1.eq_1] at hm; cases hm
    | succ n_1 =>
      rw [m_r15_Ints_L1.eq_2] at hm
      refine wseq ?_
      refine wseq ?_
      refine wregion ?_
      refine lv (v := (.int .i64 i_4)) rfl rfl (r_move rfl) ?_
      refine lv (v := (.slice a0 p0_a.length cap0)) rfl rfl (r_move rfl) ?_
      refine lv (v := (.int .i64 (p0_a.length : Int))) rfl rfl (r_len Try.underlying22 rfl) ?_
      refine lv (v := (.bool (decide (i_4 < (p0_a.length : Int))))) rfl rfl (r_lss i_4 (p0_a.length : Int) rfl rfl) ?_
      refine lnil ?_
      refine wcond (decide (i_4 < (p0_a.length : Int))) rfl (fun hb => ?_) (fun hb => ?_)
      · rw [if_pos hb] at hm
        clear hb
        refine wskip ?_
        refine wseq ?_
        refine wblock ?_
        refine wseq ?_
        refine wquiet (col := col_3) (by kernel_rfl) (by kernel_rfl) ?_
        refine qv (v := (.slice a0 p0_a.length cap0)) rfl (fun _ hC => r_move rfl) ?_
        refine qv (v := (.int .i64 i_4)) rfl (fun _ hC => r_move rfl) ?_
        obtain ⟨e_5, hj_6, hm⟩ := bind_some hm
        refine qv (v := (sptr a0 (Int.toNat i_4 * 1))) rfl (fun _ hC => r_idx Try.underlying22 Try.sizeOf3 rfl rfl (at?_some hj_6).1 (at?_some hj_6).2.1 (h0.addr hj_6)) ?_
        refine qv (v := (.int .i64 e_5)) rfl (fun _ hC => r_ld Try.isAgg3 rfl ((h0.gr (Grow.of_below (col := col_3) hC.below)).atInt hj_6)) ?_
        refine qv (v := (.slice a1 p1_b.length cap1)) rfl (fun _ hC => r_move rfl) ?_
        refine qv (v := (.int .i64 i_4)) rfl (fun _ hC => r_move rfl) ?_
        obtain ⟨e_7, hj_8, hm⟩ := bind_some hm
        refine qv (v := (sptr a1 (Int.toNat i_4 * 1))) rfl (fun _ hC => r_idx Try.underlying22 Try.sizeOf3 rfl rfl (at?_some hj_8).1 (at?_some hj_8).2.1 (h1.addr hj_8)) ?_
        refine qv (v := (.int .i64 e_7)) rfl (fun _ hC => r_ld Try.isAgg3 rfl ((h1.gr (Grow.of_below (col := col_3) hC.below)).atInt hj_8)) ?_
        refine qv (v := (.bool (!decide (e_5 = e_7)))) rfl (fun _ hC => r_neq e_5 e_7 rfl rfl) ?_
        refine qnil ?_
        intro w_9 hC
        replace hC : Grow col_3 w_2 col_3 w_9 := .of_below hC.below
        replace h0 := h0.gr hC
        replace h1 := h1.gr hC
        replace hst := hst.grow hC
        refine wcond (!decide (e_5 = e_7)) rfl (fun hb => ?_) (fun hb => ?_)
        · rw [if_pos hb] at hm
          clear hb
          refine wseq ?_
          refine wregion ?_
          refine lv (v := (.bool false)) rfl rfl (r_assign rfl) ?_
          refine lnil ?_
          refine wret ?_
          cases hm
          exact ⟨rfl, rfl, hst.below⟩
        · rw [if_neg (by rw [hb]; decide)] at hm
          clear hb
          refine wskip ?_
          refine wregion ?_
          refine lv (v := (.int .i64 i_4)) rfl rfl (r_move rfl) ?_
          refine lv (v := (.int .i64 (IntKind.i64.wrap (i_4 + 1)))) rfl rfl (r_add i_4 1 rfl rfl) ?_
          refine lv (v := (.int .i64 (IntKind.i64.wrap (i_4 + 1)))) rfl rfl (r_assign rfl) ?_
          refine lnil ?_
          exact ⟨n_1, by omega, ⟨col_3, (IntKind.i64.wrap (i_4 + 1)), n_1, rfl, hm, hst, h0, h1, rfl, rfl, rfl, rfl⟩⟩
      · rw [if_neg (by rw [hb]; decide)] at hm
        clear hb
        refine wexit (inB_hit ?_)
        refine wseq ?_
        refine wregion ?_
        refine lv (v := (.bool true)) rfl rfl (r_assign rfl) ?_
        refine lnil ?_
        refine wret ?_
        cases hm
        exact ⟨rfl, rfl, hst.below⟩




def m_slices_Values_int_int_1_L1  : List Int → Option (List Int)
  | [] => some []
  | x_5 :: l_6 => ((m_slices_Values_int_int_1_L1 l_6) ).bind fun r_7 => some (x_5 :: r_7)

def m_slices_Values_int_int_1 (v0_v : List Int) : Option (List Int) :=
  m_slices_Values_int_int_1_L1 v0_v 

set_option maxRecDepth 100000 in
set_option maxHeartbeats 2000000 in
theorem c_slices_Values_int_int_1 (col : Col) (w0 : World) (g0 : Nat) (af0 : Option Addr) (capf0 : Nat) (v0_v : List Int) (hf0 : Sl (Rep.int .i64) col w0 af0 capf0 v0_v) (hb0 : Box 22 0 col w0 g0 #[(.slice af0 v0_v.length capf0)]) (r : List Int) (hm : m_slices_Values_int_int_1 v0_v = some r) :
    Goes Try.prog 108 [(.pointer (some ⟨g0, 0, none⟩))] (fun (y : Int) (col : Col) (w : World) (args : List Value) => args = [.int .i64 y]) r col w0 := by
  intro l J X hjs hxs hy hst
  refine calls_of0 (m := 16) (args := [.func (.yield l) #[] #[], (.pointer (some ⟨g0, 0, none⟩))]) Try.func108 rfl rfl rfl rfl ?_
  rw [m_slices_Values_int_int_1.eq_1] at hm
  refine wseq ?_
  refine wregion ?_
  refine lv (v := (.slice af0 v0_v.length capf0)) rfl rfl (r_ld Try.isAgg22 rfl hb0.at1) ?_
  refine lv (v := (.int .i64 (v0_v.length : Int))) rfl rfl (r_len Try.underlying22 rfl) ?_
  refine lv (v := (.int .i64 0)) rfl rfl (r_move rfl) ?_
  refine lnil ?_
  refine wblock ?_
  refine wloop (fun n f w_3 => ∃ (col_4 : Col) (r : List Int) (k_1 : Nat) (l_2 : List Int), n = l_2.length ∧ v0_v.drop k_1 = l_2 ∧ m_slices_Values_int_int_1_L1 l_2  = some r ∧ J r col_4 w_3 ∧ Sl (Rep.int .i64) col_4 w_3 af0 capf0 v0_v ∧ Box 22 0 col_4 w_3 g0 #[(.slice af0 v0_v.length capf0)] ∧ f 7 = (.int .i64 (k_1 : Int)) ∧ f 0 = (.func (.yield l) #[] #[]) ∧ f 5 = (.slice af0 v0_v.length capf0) ∧ f 6 = (.int .i64 (v0_v.length : Int)) ∧ f 1000000 = (enc [])) v0_v.length ⟨col, r, 0, v0_v, rfl, rfl, hm, hst, hf0, hb0, rfl, rfl, rfl, rfl, rfl⟩ ?_
  clear hm; intro n f w_3 hI
  obtain ⟨col_4, r, k_1, l_2, hn, hl, hm, hst, hf0, hb0, hs7, hs0, hs5, hs6, hs1000000⟩ := hI
  subst hn
  refine .ld (d := 7) (v := (.int .i64 (k_1 : Int))) hs7 ?_
  refine .ld (d := 0) (v := (.func (.yield l) #[] #[])) hs0 ?_
  refine .ld (d := 5) (v := (.slice af0 v0_v.length capf0)) hs5 ?_
  refine .ld (d := 6) (v := (.int .i64 (v0_v.length : Int))) hs6 ?_
  refine .ld (d := 1000000) (v := (enc [])) hs1000000 ?_
  clear hs7 hs0 hs5 hs6 hs1000000
  cases l_2 with
  | nil =>
    have hk : ¬ ((k_1 : Int) < (v0_v.length : Int)) := by have := List.drop_eq_nil_iff.1 hl; omega
    have hkb := decide_eq_false hk
    rw [m_slices_Values_int_int_1_L1.eq_1] at hm
    refine wseq ?_
    refine wregion ?_
    refine lv (v := (.bool (decide ((k_1 : Int) < (v0_v.length : Int))))) rfl rfl (r_lss (k_1 : Int) (v0_v.length : Int) rfl rfl) ?_
    refine lnil ?_
    refine wseq ?_
    refine wcondF (congrArg Value.bool hkb) ?_
    refine wexit (inB_hit ?_)
    cases hm
    exact ⟨rfl, ⟨_, rfl⟩, _, .inl hst⟩
  | cons x_5 l_6 =>
    obtain ⟨hat, hl2, hlt⟩ := drop_get hl
    have hk : (k_1 : Int) < (v0_v.length : Int) := by omega
    have hkb := decide_eq_true hk
    rw [m_slices_Values_int_int_1_L1.eq_2] at hm
    refine wseq ?_
    refine wregion ?_
    refine lv (v := (.bool (decide ((k_1 : Int) < (v0_v.length : Int))))) rfl rfl (r_lss (k_1 : Int) (v0_v.length : Int) rfl rfl) ?_
    refine lnil ?_
    refine wseq ?_
    refine wcondT (congrArg Value.bool hkb) ?_
    refine wskip ?_
    refine wseq ?_
    refine wblock ?_
    refine wseq ?_
    refine wregion ?_
    refine lv (v := (sptr af0 (Int.toNat (k_1 : Int) * 1))) rfl rfl (r_idx Try.underlying22 Try.sizeOf3 rfl rfl (at?_some hat).1 (at?_some hat).2.1 (hf0.addr hat)) ?_
    refine lv (v := (.int .i64 x_5)) rfl rfl (r_ld Try.isAgg3 rfl (hf0.atInt hat)) ?_
    refine lv (v := (.int .i64 x_5)) rfl rfl (r_assign rfl) ?_
    refine lnil ?_
    refine wseq ?_
    refine wregion ?_
    refine lv (v := (.func (.yield l) #[] #[])) rfl rfl (r_move rfl) ?_
    refine lv (v := (.int .i64 x_5)) rfl rfl (r_move rfl) ?_
    obtain ⟨r_7, hc_8m, hc_8⟩ := bind_some hm
    cases hc_8
    have hm := hc_8m
    clear hc_8m
    refine ly1 rfl rfl rfl (hy _ _ _ _ [(.int .i64 x_5)] hst rfl) ?_
    rintro _ w_9 ⟨col_10, hk_11, ⟨rfl, hJ⟩ | ⟨rfl, hX⟩⟩
    · refine ⟨_, rfl, ?_⟩
      clear hst
      replace hf0 := hf0.kpp hk_11 rfl
      replace hb0 := hb0.kpp hk_11 rfl
      have hst := hJ
      clear hJ
      refine lv (v := (.bool false)) rfl rfl (r_not true rfl) ?_
      refine lnil ?_
      refine wcondF rfl ?_
      refine wskip ?_
      refine wregion ?_
      refine lv (v := (.int .i64 (IntKind.i64.wrap ((k_1 : Int) + 1)))) rfl rfl (r_add (k_1 : Int) 1 rfl rfl) ?_
      refine lv (v := (.int .i64 (IntKind.i64.wrap ((k_1 : Int) + 1)))) rfl rfl (r_move rfl) ?_
      refine lnil ?_
      exact ⟨l_6.length, by simp, ⟨col_10, r_7, (k_1 + 1), l_6, rfl, hl2, hm, hst, hf0, hb0, (congrArg (Value.int .i64) (wrap_succ (Nat.lt_of_lt_of_le hlt hf0.1.1))), rfl, rfl, rfl, rfl⟩⟩
    · clear hm
      refine ⟨_, rfl, ?_⟩
      clear hst
      replace hf0 := hf0.kpp hk_11 rfl
      replace hb0 := hb0.kpp hk_11 rfl
      have hst := hX
      clear hX
      refine lv (v := (.bool true)) rfl rfl (r_not false rfl) ?_
      refine lnil ?_
      refine wcondT rfl ?_
      refine wret ?_
      exact ⟨rfl, ⟨_, rfl⟩, _, .inr hst⟩




def m_slices_Values_int_int (p0_s : (List Int)) : Option (List Int) :=
  m_slices_Values_int_int_1 p0_s

set_option maxRecDepth 100000 in
set_option maxHeartbeats 2000000 in
theorem c_slices_Values_int_int (col : Col) (w0 : World) (a0 : Option Addr) (cap0 : Nat) (p0_s : (List Int)) (h0 : Sl (Rep.int .i64) col w0 a0 cap0 p0_s) (r : (List Int)) (hm : m_slices_Values_int_int p0_s = some r) :
    Calls Try.prog 80 #[(.slice a0 p0_s.length cap0)] w0 (fun e w' => ∃ (col' : Col) (rv1 : Value), e = .returned (rv1) ∧ Grow col w0 col' w' ∧ It Try.prog rv1 (fun (y : Int) (col : Col) (w : World) (args : List Value) => args = [.int .i64 y]) r qz col' w') := by
  refine calls_of1 2 (m := 4) (args := [(.slice a0 p0_s.length cap0)]) Try.func80 rfl rfl rfl rfl rfl ?_
  rw [m_slices_Values_int_int.eq_1] at hm
  have hst := St.start col w0
  replace h0 := h0.keep (Stay.start col w0)
  refine wseq ?_
  refine wregion ?_
  refine l_box (col := (col0 col)) (v := (.slice a0 p0_s.length cap0)) 1 rfl rfl ?_
  intro g_1 w_2 col_3 hg_4 hb_5
  replace h0 := h0.gr hg_4
  replace hst := hst.grow hg_4
  replace hb_5 : Box 22 1 col_3 w_2 g_1 #[(.slice a0 p0_s.length cap0)] := hb_5
  refine lv (v := _) rfl rfl (r_assign rfl) ?_
  refine lnil ?_
  refine wseq ?_
  refine wregion ?_
  refine lv (v := (.func (.func 108) #[] #[(.pointer (some ⟨g_1, 0, none⟩))])) rfl rfl (r_func1 rfl) ?_
  refine lv (v := (.func (.func 108) #[] #[(.pointer (some ⟨g_1, 0, none⟩))])) rfl rfl (r_assign rfl) ?_
  refine lnil ?_
  refine wret ?_
  have hb_5f := hst.finBox (G := (fun n => bif Nat.beq n 1 then 0 else 0)) hb_5 (by decide) (by decide) (show (fun n => bif Nat.beq n 1 then 0 else 0) 1 = 0 from rfl)
  have h0f := hst.finSl (g := (fun n => bif Nat.beq n 1 then 0 else 0)) rfl h0
  refine ⟨rfl, colF w0.heap.size col col_3 (fun n => bif Nat.beq n 1 then 0 else 0), _, rfl, hst.fin (fun n => bif Nat.beq n 1 then 0 else 0), 108, [(.pointer (some ⟨g_1, 0, none⟩))], rfl, Try.call108, ?_⟩
  intro col9 w9 hs9 hk9
  replace hb_5f := hb_5f.itk hs9 hk9 rfl
  replace h0f := h0f.itk hs9 hk9 rfl
  exact c_slices_Values_int_int_1  col9 w9 g_1 a0 cap0 p0_s h0f hb_5f r hm



set_option maxRecDepth 100000 in
theorem el3_110V0N : ElemOk Try.prog 3 1 8 := ⟨Try.t3, _, rfl, rfl, rfl, rfl, rfl⟩

def m_slices_AppendSeq_int_int_v0n_L1  : List Int → (List Int) → Option (List Int)
  | [], s_8 => some s_8
  | y_12 :: l_13, s_8 => chk ((s_8.length + [y_12].length) * 8 ≤ 140737488355328 ∧ s_8.length + [y_12].length ≤ maxLen) ((m_slices_AppendSeq_int_int_v0n_L1 l_13) (s_8 ++ [y_12]))

def m_slices_AppendSeq_int_int_v0n (p1_seq : List Int) : Option (List Int) :=
  m_slices_AppendSeq_int_int_v0n_L1 p1_seq ([] : List Int)

set_option maxRecDepth 100000 in
set_option maxHeartbeats 2000000 in
theorem c_slices_AppendSeq_int_int_v0n (c1 : Nat) (col : Col) (w0 : World) (v1 : Value) (p1_seq : List Int) (h1 : It Try.prog v1 (fun (y : Int) (col : Col) (w : World) (args : List Value) => args = [.int .i64 y]) p1_seq qz col w0) (r : (List Int)) (hm : m_slices_AppendSeq_int_int_v0n p1_seq = some r) :
    Calls Try.prog 110 #[(.slice none 0 0), v1] w0 (fun e w' => ∃ (col' : Col) (ra1 : Option Addr) (rc2 : Nat), e = .returned ((.slice ra1 r.length rc2)) ∧ Grow col w0 col' w' ∧ Own (Rep.int .i64) 3 c1 col' w' ra1 rc2 r) := by
  refine calls_ofM1 4 (m := 13) (args := [(.slice none 0 0), v1]) Try.func110 rfl rfl rfl rfl rfl ?_
  rw [m_slices_AppendSeq_int_int_v0n.eq_1] at hm
  have hst := St.start col w0
  replace h1 := h1.keep (Stay.start col w0)
  have hmk : Marks (col0 col) w0 [] := .nil
  refine wseq ?_
  refine wregion ?_
  refine l_box (col := (col0 col)) (v := (.slice none (([] : List Int).length) 0)) 1 rfl rfl ?_
  intro g_1 w_2 col_3 hg_4 hb_5
  replace h1 := h1.gr hg_4
  replace hmk := hmk.gr hg_4
  replace hst := hst.grow hg_4
  replace hb_5 : Box 22 1 col_3 w_2 g_1 #[(.slice none (([] : List Int).length) 0)] := hb_5
  refine lv (v := (.slice none (([] : List Int).length) 0)) rfl rfl (r_assign rfl) ?_
  refine lnil ?_
  refine wseq ?_
  refine wseq ?_
  refine wregion ?_
  refine lv (v := v1) rfl rfl (r_move rfl) ?_
  refine lnil ?_
  refine wblock ?_
  refine wrange (psl := [7]) (arr := (fun (y : Int) (col : Col) (w : World) (args : List Value) => args = [.int .i64 y])) (ys := p1_seq) (col := col_3) 498 rfl h1 rfl hmk rfl rfl (by rintro _ _ _ _ rfl; rfl) (fun ys_ col_7 w_6 => ∃ (a_9 : Option Addr) (cap_10 : Nat) (s_8 : List Int), m_slices_AppendSeq_int_int_v0n_L1 ys_ s_8 = some r ∧ St w0 (col0 col) col_7 w_6 ∧ Own (Rep.int .i64) 3 2 col_7 w_6 a_9 cap_10 s_8 ∧ Box 22 1 col_7 w_6 g_1 #[(.slice a_9 s_8.length cap_10)]) (fun _ _ _ => False) ?_ ?_ ⟨none, 0, ([] : List Int), hm, hst, Own.nil, hb_5⟩ ?_ ?_ ?_
  · intro ys_ col_7 w_6 col2_ w2_ hJ hk
    obtain ⟨a_9, cap_10, s_8, hm, hst, h_11, hb_5⟩ := hJ
    exact ⟨a_9, cap_10, s_8, hm, hst.kpp hk rfl rfl, h_11.kpp hk rfl rfl, hb_5.kpp hk rfl⟩
  · intro _ _ _ _ _ h _
    exact h
  · intro l_18 rc_19 ds_20 y_12 l_13 col_7 w_6 args hJ hrec hmk harr
    obtain ⟨a_9, cap_10, s_8, hm, hst, h_11, hb_5⟩ := hJ
    rw [m_slices_AppendSeq_int_int_v0n_L1.eq_2] at hm
    have hki := KeepP.refl pCo col_7 w_6
    subst harr
    refine wregion ?_
    refine lv (v := (.int .i64 y_12)) rfl rfl (r_assign rfl) ?_
    refine lnil ?_
    refine ⟨_, hrec, ?_⟩
    intro w_21 rc_22 hk_23 hs_24 hrec2
    replace h_11 := h_11.kp hk_23 (by decide) (by decide)
    replace hb_5 := hb_5.kp hk_23 (by decide)
    replace hmk := hmk.kp hk_23 (by decide)
    replace hki := hki.kp hk_23 hs_24 rfl
    replace hst := hst.kp hk_23 hs_24 (by decide) (by decide)
    clear hrec
    have hrec := hrec2
    clear hrec2
    refine wblock ?_
    refine wregion ?_
    refine lv (v := (.slice a_9 s_8.length cap_10)) rfl rfl (r_ld Try.isAgg22 rfl hb_5.at1) ?_
    refine lv (v := (.int .i64 y_12)) rfl rfl (r_move rfl) ?_
    refine l_lit (col := col_7) (r := (Rep.int .i64)) (xs := [y_12]) [(.int .i64 y_12)] 3 rfl Try.underlying22 el3_110V0N rfl rfl rfl rfl rfl rfl (by intro v hv; simp only [List.mem_cons, List.not_mem_nil, or_false] at hv; subst hv; rfl) (RowsH.ofF (Rows.consF (r := (Rep.int .i64)) (x := y_12) (cs := [(.int .i64 y_12)]) (rd_int .i64 y_12) Rows.nil0)) ?_
    intro a_25 w_26 col_27 hg_28 h_29
    replace h_11 := h_11.gr hg_28
    replace hb_5 := hb_5.gr hg_28
    replace hrec := hrec.gr hg_28
    replace hmk := hmk.gr hg_28
    replace hki := hki.gr hg_28
    replace hst := hst.grow hg_28
    obtain ⟨hb_30, hm⟩ := chk_some hm
    refine l_ext (col := col_27) (w := w_26) (r := (Rep.int .i64)) (c := 2) (c2 := 2) (h_11.ex) (h_29.srcN (NB.int (k := .i64))) rfl Try.underlying22 el3_110V0N rfl rfl rfl hb_30.1 hb_30.2 (by decide) ?_
    intro a_31 cap_32 w_33 col_34 hk_35 h_36
    replace h_29 := h_29.kpp hk_35 rfl rfl
    replace hb_5 := hb_5.kpp hk_35 rfl
    replace hrec := hrec.kpp hk_35 rfl
    replace hmk := hmk.kpp hk_35 rfl
    replace hki := hki.trans (hk_35.mono (by first | exact pCo_p2 rfl | exact pCo_p1 rfl | exact pCo_pS rfl | decide))
    replace hst := hst.kpp hk_35 rfl rfl
    clear h_11
    refine l_bstore (v := (.slice a_31 ((s_8 ++ [y_12]).length) cap_32)) hb_5 Try.sizeOf22 rfl rfl (by intro u hu; simp only [Value.cells, List.mem_cons, List.not_mem_nil, or_false] at hu; subst hu; rfl) rfl rfl ?_
    intro w_37 hk_38 hs_39 hb_40
    replace h_36 := h_36.kp hk_38 (by decide) (by decide)
    replace hrec := hrec.kp hk_38 (by decide)
    replace hmk := hmk.kp hk_38 (by decide)
    replace hki := hki.kp hk_38 hs_39 rfl
    replace hst := hst.kp hk_38 hs_39 (by decide) (by decide)
    clear hb_5
    replace hb_40 : Box 22 1 col_34 w_37 g_1 #[(.slice a_31 ((s_8 ++ [y_12]).length) cap_32)] := hb_40
    have h_41 := h_36.new
    clear h_36
    refine lnil ?_
    exact ⟨_, hki, ⟨a_31, cap_32, (s_8 ++ [y_12]), hm, hst, h_41, hb_40⟩, hrec, hmk⟩
  · clear hmk
    intro D_14 col_7 w_6 hJ hmk
    obtain ⟨a_9, cap_10, s_8, hm, hst, h_11, hb_5⟩ := hJ
    rw [m_slices_AppendSeq_int_int_v0n_L1.eq_1] at hm
    refine wseq ?_
    refine wregion ?_
    refine lv (v := (.slice a_9 s_8.length cap_10)) rfl rfl (r_ld Try.isAgg22 rfl hb_5.at1) ?_
    refine lv (v := (.slice a_9 s_8.length cap_10)) rfl rfl (r_assign rfl) ?_
    refine lnil ?_
    refine wret ?_
    cases hm
    refine ⟨_, (D_14 :: []), rfl, hmk, ?_⟩
    intro w_15 hk_16 hs_17
    clear hmk
    replace h_11 := h_11.kp hk_16 (by decide) (by decide)
    replace hst := hst.kp hk_16 hs_17 (by decide) (by decide)
    exact ⟨colF w0.heap.size col col_7 (fun n => bif Nat.beq n 2 then c1 else 0), a_9, cap_10, rfl, hst.fin (fun n => bif Nat.beq n 2 then c1 else 0), hst.finOwn (g := (fun n => bif Nat.beq n 2 then c1 else 0)) rfl h_11 (by decide) (by decide) rfl⟩
  · intro _ _ _ _ h
    exact h.elim




def m_slices_Collect_int (p0_seq : List Int) : Option (List Int) :=
  (m_slices_AppendSeq_int_int_v0n p0_seq).bind fun r_1 => some r_1

set_option maxRecDepth 100000 in
set_option maxHeartbeats 2000000 in
theorem c_slices_Collect_int (c1 : Nat) (col : Col) (w0 : World) (v0 : Value) (p0_seq : List Int) (h0 : It Try.prog v0 (fun (y : Int) (col : Col) (w : World) (args : List Value) => args = [.int .i64 y]) p0_seq qz col w0) (r : (List Int)) (hm : m_slices_Collect_int p0_seq = some r) :
    Calls Try.prog 86 #[v0] w0 (fun e w' => ∃ (col' : Col) (ra1 : Option Addr) (rc2 : Nat), e = .returned ((.slice ra1 r.length rc2)) ∧ Grow col w0 col' w' ∧ Own (Rep.int .i64) 3 c1 col' w' ra1 rc2 r) := by
  refine calls_of1 2 (m := 5) (args := [v0]) Try.func86 rfl rfl rfl rfl rfl ?_
  rw [m_slices_Collect_int.eq_1] at hm
  have hst := St.start col w0
  replace h0 := h0.keep (Stay.start col w0)
  refine wseq ?_
  refine wregion ?_
  refine lv (v := (.slice none (([] : List Int).length) 0)) rfl rfl (r_assign rfl) ?_
  refine lnil ?_
  refine wseq ?_
  refine wregion ?_
  refine lv (v := v0) rfl rfl (r_move rfl) ?_
  obtain ⟨r_1, hr_2, hm⟩ := bind_some hm
  refine lc rfl rfl (r_call2 Try.call110 rfl rfl) (c_slices_AppendSeq_int_int_v0n 1 (col0 col) _ v0 p0_seq h0 r_1 hr_2) ?_
  rintro _ w_6 ⟨col_8, ra_3, rc_4, rfl, hg_7, rh_5⟩
  refine ⟨_, rfl, ?_⟩
  replace h0 := h0.gr hg_7
  replace hst := hst.grow hg_7
  refine lv (v := (.slice ra_3 r_1.length rc_4)) rfl rfl (r_assign rfl) ?_
  refine lnil ?_
  refine wret ?_
  cases hm
  exact ⟨rfl, colF w0.heap.size col col_8 (fun n => bif Nat.beq n 1 then c1 else 0), ra_3, rc_4, rfl, hst.fin (fun n => bif Nat.beq n 1 then c1 else 0), hst.finOwn (g := (fun n => bif Nat.beq n 1 then c1 else 0)) rfl rh_5 (by decide) (by decide) rfl⟩



theorem c_slices_Sort_int_int (col : Col) (w0 : World) (qc0 : Nat) (hd : dstB [qc0] = true) (a0 : Option Addr) (cap0 : Nat) (p0_x : (List Int)) (h0 : Own (Rep.int .i64) 3 qc0 col w0 a0 cap0 p0_x) (r : (List Int)) (hm : lib_sort p0_x = some r) :
    Calls Try.prog 68 #[(.slice a0 p0_x.length cap0)] w0 (fun e w' => ∃ (col' : Col), e = .returned (.tuple #[]) ∧ KeepP (pS [qc0]) col w0 col' w' ∧ Own (Rep.int .i64) 3 qc0 col' w' a0 cap0 r ∧ r.length = p0_x.length) :=
  sort_int Try.slices_Sort_int Try.slices_Sort_int_none col w0 qc0 hd a0 cap0 p0_x h0 r hm




def m_slices_Sorted_int (p0_seq : List Int) : Option (List Int) :=
  (m_slices_Collect_int p0_seq).bind fun r_1 => (lib_sort r_1).bind fun r_9 => some r_9

set_option maxRecDepth 100000 in
set_option maxHeartbeats 2000000 in
theorem c_slices_Sorted_int (c1 : Nat) (col : Col) (w0 : World) (v0 : Value) (p0_seq : List Int) (h0 : It Try.prog v0 (fun (y : Int) (col : Col) (w : World) (args : List Value) => args = [.int .i64 y]) p0_seq qz col w0) (r : (List Int)) (hm : m_slices_Sorted_int p0_seq = some r) :
    Calls Try.prog 55 #[v0] w0 (fun e w' => ∃ (col' : Col) (ra1 : Option Addr) (rc2 : Nat), e = .returned ((.slice ra1 r.length rc2)) ∧ Grow col w0 col' w' ∧ Own (Rep.int .i64) 3 c1 col' w' ra1 rc2 r) := by
  refine calls_of1 2 (m := 9) (args := [v0]) Try.func55 rfl rfl rfl rfl rfl ?_
  rw [m_slices_Sorted_int.eq_1] at hm
  have hst := St.start col w0
  replace h0 := h0.keep (Stay.start col w0)
  refine wseq ?_
  refine wregion ?_
  refine lv (v := (.slice none (([] : List Int).length) 0)) rfl rfl (r_assign rfl) ?_
  refine lnil ?_
  refine wseq ?_
  refine wregion ?_
  refine lv (v := v0) rfl rfl (r_move rfl) ?_
  obtain ⟨r_1, hr_2, hm⟩ := bind_some hm
  refine lc rfl rfl (r_call1 Try.call86 rfl) (c_slices_Collect_int 1 (col0 col) _ v0 p0_seq h0 r_1 hr_2) ?_
  rintro _ w_6 ⟨col_8, ra_3, rc_4, rfl, hg_7, rh_5⟩
  refine ⟨_, rfl, ?_⟩
  replace h0 := h0.gr hg_7
  replace hst := hst.grow hg_7
  refine lv (v := (.slice ra_3 r_1.length rc_4)) rfl rfl (r_assign rfl) ?_
  refine lnil ?_
  refine wseq ?_
  refine wregion ?_
  refine lv (v := (.slice ra_3 r_1.length rc_4)) rfl rfl (r_move rfl) ?_
  obtain ⟨r_9, hr_10, hm⟩ := bind_some hm
  refine lc rfl rfl (r_call1 Try.call68 rfl) (c_slices_Sort_int_int col_8 _ 1 rfl ra_3 rc_4 r_1 rh_5 r_9 hr_10) ?_
  rintro _ w_13 ⟨col_15, rfl, hg_14, oh_11, ohl_12⟩
  refine ⟨_, rfl, ?_⟩
  replace hst := hst.kpp hg_14 rfl rfl
  clear rh_5
  refine .ld (d := 3) (v := (.slice ra_3 r_9.length rc_4)) (congrArg (fun n => Value.slice ra_3 n rc_4) (show r_1.length = r_9.length from ohl_12.symm)) ?_
  refine .ld (d := 6) (v := (.slice ra_3 r_9.length rc_4)) (congrArg (fun n => Value.slice ra_3 n rc_4) (show r_1.length = r_9.length from ohl_12.symm)) ?_
  refine lnil ?_
  refine wseq ?_
  refine wregion ?_
  refine lv (v := (.slice ra_3 r_9.length rc_4)) rfl rfl (r_move rfl) ?_
  refine lv (v := (.slice ra_3 r_9.length rc_4)) rfl rfl (r_assign rfl) ?_
  refine lnil ?_
  refine wret ?_
  cases hm
  exact ⟨rfl, colF w0.heap.size col col_15 (fun n => bif Nat.beq n 1 then c1 else 0), ra_3, rc_4, rfl, hst.fin (fun n => bif Nat.beq n 1 then c1 else 0), hst.finOwn (g := (fun n => bif Nat.beq n 1 then c1 else 0)) rfl oh_11 (by decide) (by decide) rfl⟩




def m_slices_Equal_int_int_L1 (p1_s2 : (List Int)) : List Int → Nat → Option Bool
  | [], k_1 => some true
  | x_5 :: l_6, k_1 => (at? p1_s2 (k_1 : Int)).bind fun e_7 => if (!decide (x_5 = e_7)) = true then (some false) else ((m_slices_Equal_int_int_L1 p1_s2 l_6) (k_1 + 1))

def m_slices_Equal_int_int (p0_s1 : (List Int)) (p1_s2 : (List Int)) : Option Bool :=
  if (!decide ((p0_s1.length : Int) = (p1_s2.length : Int))) = true then (some false) else (m_slices_Equal_int_int_L1 p1_s2 p0_s1 0)

set_option maxRecDepth 100000 in
set_option maxHeartbeats 2000000 in
theorem c_slices_Equal_int_int (col : Col) (w0 : World) (a0 : Option Addr) (cap0 : Nat) (p0_s1 : (List Int)) (a1 : Option Addr) (cap1 : Nat) (p1_s2 : (List Int)) (h0 : Sl (Rep.int .i64) col w0 a0 cap0 p0_s1) (h1 : Sl (Rep.int .i64) col w0 a1 cap1 p1_s2) (r : Bool) (hm : m_slices_Equal_int_int p0_s1 p1_s2 = some r) :
    Calls Try.prog 81 #[(.slice a0 p0_s1.length cap0), (.slice a1 p1_s2.length cap1)] w0 (fun e w' => e = .returned ((.bool r)) ∧ Below w0.heap.size w0 w') := by
  refine calls_of1 4 (m := 26) (args := [(.slice a0 p0_s1.length cap0), (.slice a1 p1_s2.length cap1)]) Try.func81 rfl rfl rfl rfl rfl ?_
  rw [m_slices_Equal_int_int.eq_1] at hm
  have hst := St.start col w0
  replace h0 := h0.keep (Stay.start col w0)
  replace h1 := h1.keep (Stay.start col w0)
  refine wseq ?_
  refine wregion ?_
  refine lv (v := (.bool false)) rfl rfl (r_assign rfl) ?_
  refine lnil ?_
  refine wseq ?_
  refine wseq ?_
  refine wregion ?_
  refine lv (v := (.slice a0 p0_s1.length cap0)) rfl rfl (r_move rfl) ?_
  refine lv (v := (.int .i64 (p0_s1.length : Int))) rfl rfl (r_len Try.underlying22 rfl) ?_
  refine lv (v := (.slice a1 p1_s2.length cap1)) rfl rfl (r_move rfl) ?_
  refine lv (v := (.int .i64 (p1_s2.length : Int))) rfl rfl (r_len Try.underlying22 rfl) ?_
  refine lv (v := (.bool (!decide ((p0_s1.length : Int) = (p1_s2.length : Int))))) rfl rfl (r_neq (p0_s1.length : Int) (p1_s2.length : Int) rfl rfl) ?_
  refine lnil ?_
  refine wcond (!decide ((p0_s1.length : Int) = (p1_s2.length : Int))) rfl (fun hb => ?_) (fun hb => ?_)
  · rw [if_pos hb] at hm
    clear hb
    refine wseq ?_
    refine wregion ?_
    refine lv (v := (.bool false)) rfl rfl (r_assign rfl) ?_
    refine lnil ?_
    refine wret ?_
    cases hm
    exact ⟨rfl, rfl, hst.below⟩
  · rw [if_neg (by rw [hb]; decide)] at hm
    clear hb
    refine wskip ?_
    refine wseq ?_
    refine wseq ?_
    refine wregion ?_
    refine lv (v := (.slice a0 p0_s1.length cap0)) rfl rfl (r_move rfl) ?_
    refine lv (v := (.int .i64 (p0_s1.length : Int))) rfl rfl (r_len Try.underlying22 rfl) ?_
    refine lv (v := (.int .i64 0)) rfl rfl (r_move rfl) ?_
    refine lnil ?_
    refine wblock ?_
    refine wloop (fun n f w_3 => ∃ (col_4 : Col) (k_1 : Nat) (l_2 : List Int), n = l_2.length ∧ p0_s1.drop k_1 = l_2 ∧ m_slices_Equal_int_int_L1 p1_s2 l_2 k_1 = some r ∧ St w0 (col0 col) col_4 w_3 ∧ Sl (Rep.int .i64) col_4 w_3 a0 cap0 p0_s1 ∧ Sl (Rep.int .i64) col_4 w_3 a1 cap1 p1_s2 ∧ f 13 = (.int .i64 (k_1 : Int)) ∧ f 0 = (.slice a0 p0_s1.length cap0) ∧ f 1 = (.slice a1 p1_s2.length cap1) ∧ f 12 = (.int .i64 (p0_s1.length : Int)) ∧ f 1000000 = (enc [])) p0_s1.length ⟨(col0 col), 0, p0_s1, rfl, rfl, hm, hst, h0, h1, rfl, rfl, rfl, rfl, rfl⟩ ?_
    clear hm; intro n f w_3 hI
    obtain ⟨col_4, k_1, l_2, hn, hl, hm, hst, h0, h1, hs13, hs0, hs1, hs12, hs1000000⟩ := hI
    subst hn
    refine .ld (d := 13) (v := (.int .i64 (k_1 : Int))) hs13 ?_
    refine .ld (d := 0) (v := (.slice a0 p0_s1.length cap0)) hs0 ?_
    refine .ld (d := 1) (v := (.slice a1 p1_s2.length cap1)) hs1 ?_
    refine .ld (d := 12) (v := (.int .i64 (p0_s1.length : Int))) hs12 ?_
    refine .ld (d := 1000000) (v := (enc [])) hs1000000 ?_
    clear hs13 hs0 hs1 hs12 hs1000000
    cases l_2 with
    | nil =>
      have hk : ¬ ((k_1 : Int) < (p0_s1.length : Int)) := by have := List.drop_eq_nil_iff.1 hl; omega
      have hkb := decide_eq_false hk
      rw [m_slices_Equal_int_int_L1.eq_1] at hm
      refine wseq ?_
      refine wregion ?_
      refine lv (v := (.bool (decide ((k_1 : Int) < (p0_s1.length : Int))))) rfl rfl (r_lss (k_1 : Int) (p0_s1.length : Int) rfl rfl) ?_
      refine lnil ?_
      refine wseq ?_
      refine wcondF (congrArg Value.bool hkb) ?_
      refine wexit (inB_hit ?_)
      refine wseq ?_
      refine wregion ?_
      refine lv (v := (.bool true)) rfl rfl (r_assign rfl) ?_
      refine lnil ?_
      refine wret ?_
      cases hm
      exact ⟨rfl, rfl, hst.below⟩
    | cons x_5 l_6 =>
      obtain ⟨hat, hl2, hlt⟩ := drop_get hl
      have hk : (k_1 : Int) < (p0_s1.length : Int) := by omega
      have hkb := decide_eq_true hk
      rw [m_slices_Equal_int_int_L1.eq_2] at hm
      refine wseq ?_
      refine wregion ?_
      refine lv (v := (.bool (decide ((k_1 : Int) < (p0_s1.length : Int))))) rfl rfl (r_lss (k_1 : Int) (p0_s1.length : Int) rfl rfl) ?_
      refine lnil ?_
      refine wseq ?_
      refine wcondT (congrArg Value.bool hkb) ?_
      refine wskip ?_
      refine wseq ?_
      refine wblock ?_
      refine wseq ?_
      refine wregion ?_
      refine lv (v := (.int .i64 (k_1 : Int))) rfl rfl (r_move rfl) ?_
      refine lv (v := (.int .i64 (k_1 : Int))) rfl rfl (r_assign rfl) ?_
      refine lnil ?_
      refine wseq ?_
      refine wquiet (col := col_4) (by kernel_rfl) (by kernel_rfl) ?_
      refine qv (v := (.slice a0 p0_s1.length cap0)) rfl (fun _ hC => r_move rfl) ?_
      refine qv (v := (.int .i64 (k_1 : Int))) rfl (fun _ hC => r_move rfl) ?_
      refine qv (v := (sptr a0 (Int.toNat (k_1 : Int) * 1))) rfl (fun _ hC => r_idx Try.underlying22 Try.sizeOf3 rfl rfl (at?_some hat).1 (at?_some hat).2.1 (h0.addr hat)) ?_
      refine qv (v := (.int .i64 x_5)) rfl (fun _ hC => r_ld Try.isAgg3 rfl ((h0.gr (Grow.of_below (col := col_4) hC.below)).atInt hat)) ?_
      refine qv (v := (.slice a1 p1_s2.length cap1)) rfl (fun _ hC => r_move rfl) ?_
      refine qv (v := (.int .i64 (k_1 : Int))) rfl (fun _ hC => r_move rfl) ?_
      obtain ⟨e_7, hj_8, hm⟩ := bind_some hm
      refine qv (v := (sptr a1 (Int.toNat (k_1 : Int) * 1))) rfl (fun _ hC => r_idx Try.underlying22 Try.sizeOf3 rfl rfl (at?_some hj_8).1 (at?_some hj_8).2.1 (h1.addr hj_8)) ?_
      refine qv (v := (.int .i64 e_7)) rfl (fun _ hC => r_ld Try.isAgg3 rfl ((h1.gr (Grow.of_below (col := col_4) hC.below)).atInt hj_8)) ?_
      refine qv (v := (.bool (!decide (x_5 = e_7)))) rfl (fun _ hC => r_neq x_5 e_7 rfl rfl) ?_
      refine qnil ?_
      intro w_9 hC
      replace hC : Grow col_4 w_3 col_4 w_9 := .of_below hC.below
      replace h0 := h0.gr hC
      replace h1 := h1.gr hC
      replace hst := hst.grow hC
      refine wcond (!decide (x_5 = e_7)) rfl (fun hb => ?_) (fun hb => ?_)
      · rw [if_pos hb] at hm
        clear hb
        refine wseq ?_
        refine wregion ?_
        refine lv (v := (.bool false)) rfl rfl (r_assign rfl) ?_
        refine lnil ?_
        refine wret ?_
        cases hm
        exact ⟨rfl, rfl, hst.below⟩
      · rw [if_neg (by rw [hb]; decide)] at hm
        clear hb
        refine wskip ?_
        refine wregion ?_
        refine lv (v := (.int .i64 (IntKind.i64.wrap ((k_1 : Int) + 1)))) rfl rfl (r_add (k_1 : Int) 1 rfl rfl) ?_
        refine lv (v := (.int .i64 (IntKind.i64.wrap ((k_1 : Int) + 1)))) rfl rfl (r_move rfl) ?_
        refine lnil ?_
        exact ⟨l_6.length, by simp, ⟨col_4, (k_1 + 1), l_6, rfl, hl2, hm, hst, h0, h1, (congrArg (Value.int .i64) (wrap_succ (Nat.lt_of_lt_of_le hlt h0.1.1))), rfl, rfl, rfl, rfl⟩⟩




def m_order_Check_J1 (v_59 : Bool) : Option Int :=
  if v_59 = true then (some 51) else (some 0)

def m_order_Check (p0_order : (List Int)) (p1_points : (List Int)) : Option Int :=
  (m_slices_Values_int_int p0_order).bind fun r_1 => (m_slices_Sorted_int r_1).bind fun r_8 => (m_slices_Values_int_int p1_points).bind fun r_16 => (m_slices_Sorted_int r_16).bind fun r_23 => (m_slices_Equal_int_int r_8 r_23).bind fun r_60 => if (!r_60) = true then (m_order_Check_J1 true) else ((lib_compact r_8).bind fun r_65 => m_order_Check_J1 (!decide ((r_65.length : Int) = (r_23.length : Int))))

set_option maxRecDepth 100000 in
set_option maxHeartbeats 2000000 in
theorem c_order_Check (col : Col) (w0 : World) (a0 : Option Addr) (cap0 : Nat) (p0_order : (List Int)) (a1 : Option Addr) (cap1 : Nat) (p1_points : (List Int)) (h0 : Sl (Rep.int .i64) col w0 a0 cap0 p0_order) (h1 : Sl (Rep.int .i64) col w0 a1 cap1 p1_points) (r : Int) (hm : m_order_Check p0_order p1_points = some r) :
    Calls Try.prog 45 #[(.slice a0 p0_order.length cap0), (.slice a1 p1_points.length cap1)] w0 (fun e w' => e = .returned ((.int .i64 r)) ∧ Below w0.heap.size w0 w') := by
  refine calls_of1 4 (m := 25) (args := [(.slice a0 p0_order.length cap0), (.slice a1 p1_points.length cap1)]) Try.func45 rfl rfl rfl rfl rfl ?_
  rw [m_order_Check.eq_1] at hm
  have hst := St.start col w0
  replace h0 := h0.keep (Stay.start col w0)
  replace h1 := h1.keep (Stay.start col w0)
  refine wseq ?_
  refine wregion ?_
  refine lv (v := (.int .i64 0)) rfl rfl (r_assign rfl) ?_
  refine lnil ?_
  refine wseq ?_
  refine wregion ?_
  refine lv (v := (.slice a0 p0_order.length cap0)) rfl rfl (r_move rfl) ?_
  obtain ⟨r_1, hr_2, hm⟩ := bind_some hm
  refine lc rfl rfl (r_call1 Try.call80 rfl) (c_slices_Values_int_int (col0 col) _ a0 cap0 p0_order h0 r_1 hr_2) ?_
  rintro _ w_5 ⟨col_7, rv_3, rfl, hg_6, rh_4⟩
  refine ⟨_, rfl, ?_⟩
  replace h1 := h1.gr hg_6
  replace h0 := h0.gr hg_6
  replace hst := hst.grow hg_6
  obtain ⟨r_8, hr_9, hm⟩ := bind_some hm
  refine lc rfl rfl (r_call1 Try.call55 rfl) (c_slices_Sorted_int 1 col_7 _ rv_3 r_1 rh_4 r_8 hr_9) ?_
  rintro _ w_13 ⟨col_15, ra_10, rc_11, rfl, hg_14, rh_12⟩
  refine ⟨_, rfl, ?_⟩
  replace h1 := h1.gr hg_14
  replace rh_4 := rh_4.gr hg_14
  replace hst := hst.grow hg_14
  refine lv (v := (.slice a1 p1_points.length cap1)) rfl rfl (r_move rfl) ?_
  obtain ⟨r_16, hr_17, hm⟩ := bind_some hm
  refine lc rfl rfl (r_call1 Try.call80 rfl) (c_slices_Values_int_int col_15 _ a1 cap1 p1_points h1 r_16 hr_17) ?_
  rintro _ w_20 ⟨col_22, rv_18, rfl, hg_21, rh_19⟩
  refine ⟨_, rfl, ?_⟩
  replace rh_12 := rh_12.gr hg_21
  replace h1 := h1.gr hg_21
  replace hst := hst.grow hg_21
  obtain ⟨r_23, hr_24, hm⟩ := bind_some hm
  refine lc rfl rfl (r_call1 Try.call55 rfl) (c_slices_Sorted_int 2 col_22 _ rv_18 r_16 rh_19 r_23 hr_24) ?_
  rintro _ w_28 ⟨col_30, ra_25, rc_26, rfl, hg_29, rh_27⟩
  refine ⟨_, rfl, ?_⟩
  replace rh_12 := rh_12.gr hg_29
  replace rh_19 := rh_19.gr hg_29
  replace hst := hst.grow hg_29
  refine lv (v := (.slice ra_10 r_8.length rc_11)) rfl rfl (r_assign rfl) ?_
  refine lv (v := (.slice ra_25 r_23.length rc_26)) rfl rfl (r_assign rfl) ?_
  refine lnil ?_
  refine wseq ?_
  refine wseq ?_
  refine Wp.cut (fun f w_57 => ∃ (col_58 : Col) (v_59 : Bool), m_order_Check_J1 v_59 = some r ∧ St w0 (col0 col) col_58 w_57 ∧ f 24 = (.bool v_59) ∧ f 1000000 = (enc [])) ?_ ?_
  · intro f w_57 hJ
    obtain ⟨col_58, v_59, hm, hst, hs24, hs1000000⟩ := hJ
    rw [m_order_Check_J1.eq_1] at hm
    refine .ld (d := 24) (v := (.bool v_59)) hs24 ?_
    refine .ld (d := 1000000) (v := (enc [])) hs1000000 ?_
    clear hs24 hs1000000
    refine wcond (v_59) rfl (fun hb => ?_) (fun hb => ?_)
    · rw [if_pos hb] at hm
      clear hb
      refine wseq ?_
      refine wregion ?_
      refine lv (v := (.int .i64 51)) rfl rfl (r_assign rfl) ?_
      refine lnil ?_
      refine wret ?_
      cases hm
      exact ⟨rfl, rfl, hst.below⟩
    · rw [if_neg (by rw [hb]; decide)] at hm
      clear hb
      refine wskip ?_
      refine wseq ?_
      refine wregion ?_
      refine lv (v := (.int .i64 0)) rfl rfl (r_assign rfl) ?_
      refine lnil ?_
      refine wret ?_
      cases hm
      exact ⟨rfl, rfl, hst.below⟩
  · refine wregion ?_
    refine lv (v := (.slice ra_10 r_8.length rc_11)) rfl rfl (r_move rfl) ?_
    refine lv (v := (.slice ra_25 r_23.length rc_26)) rfl rfl (r_move rfl) ?_
    obtain ⟨r_60, hr_61, hm⟩ := bind_some hm
    refine lc rfl rfl (r_call2 Try.call81 rfl rfl) (c_slices_Equal_int_int (frC 2 (frC 1 col_30)) _ ra_10 rc_11 r_8 ra_25 rc_26 r_23 ((rh_12.toSlF (Froz.int .i64)).froz 2) ((rh_27.froz 1 (by decide)).toSlF (Froz.int .i64)) r_60 hr_61) ?_
    rintro _ w_62 ⟨rfl, hg_63⟩
    refine ⟨_, rfl, ?_⟩
    replace hg_63 : Grow col_30 w_28 col_30 w_62 := .of_below hg_63
    replace rh_12 := rh_12.gr hg_63
    replace rh_27 := rh_27.gr hg_63
    replace hst := hst.grow hg_63
    refine lv (v := (.bool (!r_60))) rfl rfl (r_not r_60 rfl) ?_
    refine lv (v := (.bool (!r_60))) rfl rfl (r_move rfl) ?_
    by_cases hg_64 : (!r_60) = true
    · rw [if_pos hg_64] at hm
      refine lp (b := !r_60) 17 rfl rfl rfl rfl (by rw [hg_64]; rfl) ?_
      refine lp (b := !r_60) 17 rfl rfl rfl rfl (by rw [hg_64]; rfl) ?_
      refine lp (b := !r_60) 17 rfl rfl rfl rfl (by rw [hg_64]; rfl) ?_
      refine lp (b := !r_60) 17 rfl rfl rfl rfl (by rw [hg_64]; rfl) ?_
      refine lp (b := !r_60) 17 rfl rfl rfl rfl (by rw [hg_64]; rfl) ?_
      refine lp (b := !r_60) 17 rfl rfl rfl rfl (by rw [hg_64]; rfl) ?_
      refine lv (v := (.bool true)) rfl rfl (r_pickT (congrArg Value.bool hg_64) rfl) ?_
      refine lnil ?_
      exact ⟨col_30, true, hm, hst, rfl, rfl⟩
    · rw [if_neg hg_64] at hm
      replace hg_64 := Bool.eq_false_iff.2 hg_64
      refine lg (b := !r_60) 17 rfl rfl rfl (by rw [hg_64]; rfl) ?_
      refine lv (v := (.slice ra_10 r_8.length rc_11)) rfl rfl (r_move rfl) ?_
      refine lg (b := !r_60) 17 rfl rfl rfl (by rw [hg_64]; rfl) ?_
      obtain ⟨r_65, hr_66, hm⟩ := bind_some hm
      refine lc rfl rfl (r_call1 Try.call82 rfl) (c_compact 1 (by decide) col_30 _ ra_10 rc_11 r_8 rh_12 r_65 hr_66) ?_
      rintro _ w_67 ⟨col_68, a_69, cap_70, rfl, hk_71, h_72⟩
      refine ⟨_, rfl, ?_⟩
      replace rh_27 := rh_27.kpp hk_71 rfl rfl
      replace hst := hst.kpp hk_71 rfl rfl
      clear rh_12
      refine lg (b := !r_60) 17 rfl rfl rfl (by rw [hg_64]; rfl) ?_
      refine lv (v := (.int .i64 (r_65.length : Int))) rfl rfl (r_len Try.underlying22 rfl) ?_
      refine lg (b := !r_60) 17 rfl rfl rfl (by rw [hg_64]; rfl) ?_
      refine lv (v := (.slice ra_25 r_23.length rc_26)) rfl rfl (r_move rfl) ?_
      refine lg (b := !r_60) 17 rfl rfl rfl (by rw [hg_64]; rfl) ?_
      refine lv (v := (.int .i64 (r_23.length : Int))) rfl rfl (r_len Try.underlying22 rfl) ?_
      refine lg (b := !r_60) 17 rfl rfl rfl (by rw [hg_64]; rfl) ?_
      refine lv (v := (.bool (!decide ((r_65.length : Int) = (r_23.length : Int))))) rfl rfl (r_neq (r_65.length : Int) (r_23.length : Int) rfl rfl) ?_
      refine lv (v := (.bool (!decide ((r_65.length : Int) = (r_23.length : Int))))) rfl rfl (r_pickF (congrArg Value.bool hg_64) rfl) ?_
      refine lnil ?_
      exact ⟨col_68, (!decide ((r_65.length : Int) = (r_23.length : Int))), hm, hst, rfl, rfl⟩




def m_graph_Graph_Len (p0_g : List (List Bool)) : Option Int :=
  some (p0_g.length : Int)

set_option maxRecDepth 100000 in
set_option maxHeartbeats 2000000 in
theorem c_graph_Graph_Len (col : Col) (w0 : World) (qc0 : Nat) (hqqc0 : qc0 ≠ 0) (o0 : GObj) (p0_g : List (List Bool)) (h0 : GO 85 86 qc0 col w0 o0 p0_g) (r : Int) (hm : m_graph_Graph_Len p0_g = some r) :
    Calls Try.prog 15 #[(.pointer (some ⟨o0.g, 0, none⟩))] w0 (fun e w' => e = .returned ((.int .i64 r)) ∧ Below w0.heap.size w0 w') := by
  refine calls_of1 2 (m := 8) (args := [(.pointer (some ⟨o0.g, 0, none⟩))]) Try.func15 rfl rfl rfl rfl rfl ?_
  rw [m_graph_Graph_Len.eq_1] at hm
  have hst := St.start col w0
  replace h0 := h0.start0 hqqc0
  refine wseq ?_
  refine wregion ?_
  refine lv (v := (.int .i64 0)) rfl rfl (r_assign rfl) ?_
  refine lnil ?_
  refine wseq ?_
  refine wregion ?_
  refine lv (v := (.pointer (some ⟨o0.g, 0, none⟩))) rfl rfl (r_move rfl) ?_
  refine lv (v := (.pointer (some ⟨o0.g, 0, none⟩))) rfl rfl (r_nilCheck rfl) ?_
  refine lv (v := (.pointer ((some (⟨o0.g, 0, none⟩ : Addr)).map (·.add 0)))) rfl rfl (r_fieldAddr (sz := 1) (off := 0) Try.underlying85 rfl Try.sizeOf83 (by decide) rfl rfl ⟨_, _, rfl⟩) ?_
  refine lv (v := (.slice o0.a p0_g.length o0.cap)) rfl rfl (r_ld Try.isAgg83 rfl ((h0.box.atN).nth (q := 0) (v := (.slice o0.a p0_g.length o0.cap)) rfl)) ?_
  refine lv (v := (.int .i64 (p0_g.length : Int))) rfl rfl (r_len Try.underlying83 rfl) ?_
  refine lv (v := (.int .i64 (p0_g.length : Int))) rfl rfl (r_assign rfl) ?_
  refine lnil ?_
  refine wret ?_
  cases hm
  exact ⟨rfl, rfl, hst.below⟩




def m_order_wrong_J1 (kk_L1 : (Option Int)) (v_42 : Bool) : Option Int :=
  if v_42 = true then (some 3) else kk_L1

def m_order_wrong_L1 (p0_g : List (List Bool)) (p1_l : (List Int)) : List Int → Option Int
  | [] => (m_slices_Values_int_int p1_l).bind fun r_7 => (m_slices_Sorted_int r_7).bind fun r_14 => (lib_compact r_14).bind fun r_22 => if (!decide ((r_22.length : Int) = (p1_l.length : Int))) = true then (some 40) else (some 0)
  | x_5 :: l_6 => if (decide (x_5 < 0)) = true then (m_order_wrong_J1 (m_order_wrong_L1 p0_g p1_l l_6) true) else ((m_graph_Graph_Len p0_g).bind fun r_44 => m_order_wrong_J1 (m_order_wrong_L1 p0_g p1_l l_6) (decide (r_44 ≤ x_5)))

def m_order_wrong (p0_g : List (List Bool)) (p1_l : (List Int)) : Option Int :=
  m_order_wrong_L1 p0_g p1_l p1_l 

set_option maxRecDepth 100000 in
set_option maxHeartbeats 2000000 in
theorem c_order_wrong (col : Col) (w0 : World) (qc0 : Nat) (hqqc0 : qc0 ≠ 0) (o0 : GObj) (p0_g : List (List Bool)) (a1 : Option Addr) (cap1 : Nat) (p1_l : (List Int)) (h0 : GO 85 86 qc0 col w0 o0 p0_g) (h1 : Sl (Rep.int .i64) col w0 a1 cap1 p1_l) (r : Int) (hm : m_order_wrong p0_g p1_l = some r) :
    Calls Try.prog 75 #[(.pointer (some ⟨o0.g, 0, none⟩)), (.slice a1 p1_l.length cap1)] w0 (fun e w' => e = .returned ((.int .i64 r)) ∧ Below w0.heap.size w0 w') := by
  refine calls_of1 4 (m := 32) (args := [(.pointer (some ⟨o0.g, 0, none⟩)), (.slice a1 p1_l.length cap1)]) Try.func75 rfl rfl rfl rfl rfl ?_
  rw [m_order_wrong.eq_1] at hm
  have hst := St.start col w0
  replace h0 := h0.start0 hqqc0
  replace h1 := h1.keep (Stay.start col w0)
  refine wseq ?_
  refine wregion ?_
  refine lv (v := (.int .i64 0)) rfl rfl (r_assign rfl) ?_
  refine lnil ?_
  refine wseq ?_
  refine wseq ?_
  refine wregion ?_
  refine lv (v := (.pointer (some ⟨o0.g, 0, none⟩))) rfl rfl (r_move rfl) ?_
  refine lv (v := (.bool false)) rfl rfl (r_eqlP1 ⟨_, Try.underlying24⟩ rfl rfl) ?_
  refine lnil ?_
  refine wcondF rfl ?_
  refine wskip ?_
  refine wseq ?_
  refine wseq ?_
  refine wregion ?_
  refine lv (v := (.slice a1 p1_l.length cap1)) rfl rfl (r_move rfl) ?_
  refine lv (v := (.int .i64 (p1_l.length : Int))) rfl rfl (r_len Try.underlying22 rfl) ?_
  refine lv (v := (.int .i64 0)) rfl rfl (r_move rfl) ?_
  refine lnil ?_
  refine wblock ?_
  refine wloop (fun n f w_3 => ∃ (col_4 : Col) (k_1 : Nat) (l_2 : List Int), n = l_2.length ∧ p1_l.drop k_1 = l_2 ∧ m_order_wrong_L1 p0_g p1_l l_2  = some r ∧ St w0 (col0 col) col_4 w_3 ∧ GO 85 86 999 col_4 w_3 o0 p0_g ∧ Sl (Rep.int .i64) col_4 w_3 a1 cap1 p1_l ∧ f 11 = (.int .i64 (k_1 : Int)) ∧ f 0 = (.pointer (some ⟨o0.g, 0, none⟩)) ∧ f 1 = (.slice a1 p1_l.length cap1) ∧ f 10 = (.int .i64 (p1_l.length : Int)) ∧ f 9 = (.slice a1 p1_l.length cap1) ∧ f 1000000 = (enc [])) p1_l.length ⟨(col0 col), 0, p1_l, rfl, rfl, hm, hst, h0, h1, rfl, rfl, rfl, rfl, rfl, rfl⟩ ?_
  clear hm; intro n f w_3 hI
  obtain ⟨col_4, k_1, l_2, hn, hl, hm, hst, h0, h1, hs11, hs0, hs1, hs10, hs9, hs1000000⟩ := hI
  subst hn
  refine .ld (d := 11) (v := (.int .i64 (k_1 : Int))) hs11 ?_
  refine .ld (d := 0) (v := (.pointer (some ⟨o0.g, 0, none⟩))) hs0 ?_
  refine .ld (d := 1) (v := (.slice a1 p1_l.length cap1)) hs1 ?_
  refine .ld (d := 10) (v := (.int .i64 (p1_l.length : Int))) hs10 ?_
  refine .ld (d := 9) (v := (.slice a1 p1_l.length cap1)) hs9 ?_
  refine .ld (d := 1000000) (v := (enc [])) hs1000000 ?_
  clear hs11 hs0 hs1 hs10 hs9 hs1000000
  cases l_2 with
  | nil =>
    have hk : ¬ ((k_1 : Int) < (p1_l.length : Int)) := by have := List.drop_eq_nil_iff.1 hl; omega
    have hkb := decide_eq_false hk
    rw [m_order_wrong_L1.eq_1] at hm
    refine wseq ?_
    refine wregion ?_
    refine lv (v := (.bool (decide ((k_1 : Int) < (p1_l.length : Int))))) rfl rfl (r_lss (k_1 : Int) (p1_l.length : Int) rfl rfl) ?_
    refine lnil ?_
    refine wseq ?_
    refine wcondF (congrArg Value.bool hkb) ?_
    refine wexit (inB_hit ?_)
    refine wseq ?_
    refine wseq ?_
    refine wregion ?_
    refine lv (v := (.slice a1 p1_l.length cap1)) rfl rfl (r_move rfl) ?_
    obtain ⟨r_7, hr_8, hm⟩ := bind_some hm
    refine lc rfl rfl (r_call1 Try.call80 rfl) (c_slices_Values_int_int col_4 _ a1 cap1 p1_l h1 r_7 hr_8) ?_
    rintro _ w_11 ⟨col_13, rv_9, rfl, hg_12, rh_10⟩
    refine ⟨_, rfl, ?_⟩
    replace h1 := h1.gr hg_12
    replace hst := hst.grow hg_12
    obtain ⟨r_14, hr_15, hm⟩ := bind_some hm
    refine lc rfl rfl (r_call1 Try.call55 rfl) (c_slices_Sorted_int 1 col_13 _ rv_9 r_7 rh_10 r_14 hr_15) ?_
    rintro _ w_19 ⟨col_21, ra_16, rc_17, rfl, hg_20, rh_18⟩
    refine ⟨_, rfl, ?_⟩
    replace h1 := h1.gr hg_20
    replace rh_10 := rh_10.gr hg_20
    replace hst := hst.grow hg_20
    obtain ⟨r_22, hr_23, hm⟩ := bind_some hm
    refine lc rfl rfl (r_call1 Try.call82 rfl) (c_compact 1 (by decide) col_21 _ ra_16 rc_17 r_14 rh_18 r_22 hr_23) ?_
    rintro _ w_24 ⟨col_25, a_26, cap_27, rfl, hk_28, h_29⟩
    refine ⟨_, rfl, ?_⟩
    replace h1 := h1.kpp hk_28 rfl
    replace hst := hst.kpp hk_28 rfl rfl
    clear rh_18
    refine lv (v := (.int .i64 (r_22.length : Int))) rfl rfl (r_len Try.underlying22 rfl) ?_
    refine lv (v := (.slice a1 p1_l.length cap1)) rfl rfl (r_move rfl) ?_
    refine lv (v := (.int .i64 (p1_l.length : Int))) rfl rfl (r_len Try.underlying22 rfl) ?_
    refine lv (v := (.bool (!decide ((r_22.length : Int) = (p1_l.length : Int))))) rfl rfl (r_neq (r_22.length : Int) (p1_l.length : Int) rfl rfl) ?_
    refine lnil ?_
    refine wcond (!decide ((r_22.length : Int) = (p1_l.length : Int))) rfl (fun hb => ?_) (fun hb => ?_)
    · rw [if_pos hb] at hm
      clear hb
      refine wseq ?_
      refine wregion ?_
      refine lv (v := (.int .i64 40)) rfl rfl (r_assign rfl) ?_
      refine lnil ?_
      refine wret ?_
      cases hm
      exact ⟨rfl, rfl, hst.below⟩
    · rw [if_neg (by rw [hb]; decide)] at hm
      clear hb
      refine wskip ?_
      refine wseq ?_
      refine wregion ?_
      refine lv (v := (.int .i64 0)) rfl rfl (r_assign rfl) ?_
      refine lnil ?_
      refine wret ?_
      cases hm
      exact ⟨rfl, rfl, hst.below⟩
  | cons x_5 l_6 =>
    obtain ⟨hat, hl2, hlt⟩ := drop_get hl
    have hk : (k_1 : Int) < (p1_l.length : Int) := by omega
    have hkb := decide_eq_true hk
    rw [m_order_wrong_L1.eq_2] at hm
    refine wseq ?_
    refine wregion ?_
    refine lv (v := (.bool (decide ((k_1 : Int) < (p1_l.length : Int))))) rfl rfl (r_lss (k_1 : Int) (p1_l.length : Int) rfl rfl) ?_
    refine lnil ?_
    refine wseq ?_
    refine wcondT (congrArg Value.bool hkb) ?_
    refine wskip ?_
    refine wseq ?_
    refine wblock ?_
    refine wseq ?_
    refine wregion ?_
    refine lv (v := (sptr a1 (Int.toNat (k_1 : Int) * 1))) rfl rfl (r_idx Try.underlying22 Try.sizeOf3 rfl rfl (at?_some hat).1 (at?_some hat).2.1 (h1.addr hat)) ?_
    refine lv (v := (.int .i64 x_5)) rfl rfl (r_ld Try.isAgg3 rfl (h1.atInt hat)) ?_
    refine lv (v := (.int .i64 x_5)) rfl rfl (r_assign rfl) ?_
    refine lnil ?_
    refine wseq ?_
    refine Wp.cut (fun f w_40 => ∃ (col_41 : Col) (v_42 : Bool), m_order_wrong_J1 (m_order_wrong_L1 p0_g p1_l l_6) v_42 = some r ∧ St w0 (col0 col) col_41 w_40 ∧ GO 85 86 999 col_41 w_40 o0 p0_g ∧ Sl (Rep.int .i64) col_41 w_40 a1 cap1 p1_l ∧ f 0 = (.pointer (some ⟨o0.g, 0, none⟩)) ∧ f 1 = (.slice a1 p1_l.length cap1) ∧ f 10 = (.int .i64 (p1_l.length : Int)) ∧ f 11 = (.int .i64 (k_1 : Int)) ∧ f 22 = (.bool v_42) ∧ f 9 = (.slice a1 p1_l.length cap1) ∧ f 1000000 = (enc [])) ?_ ?_
    · intro f w_40 hJ
      obtain ⟨col_41, v_42, hm, hst, h0, h1, hs0, hs1, hs10, hs11, hs22, hs9, hs1000000⟩ := hJ
      rw [m_order_wrong_J1.eq_1] at hm
      refine .ld (d := 0) (v := (.pointer (some ⟨o0.g, 0, none⟩))) hs0 ?_
      refine .ld (d := 1) (v := (.slice a1 p1_l.length cap1)) hs1 ?_
      refine .ld (d := 10) (v := (.int .i64 (p1_l.length : Int))) hs10 ?_
      refine .ld (d := 11) (v := (.int .i64 (k_1 : Int))) hs11 ?_
      refine .ld (d := 22) (v := (.bool v_42)) hs22 ?_
      refine .ld (d := 9) (v := (.slice a1 p1_l.length cap1)) hs9 ?_
      refine .ld (d := 1000000) (v := (enc [])) hs1000000 ?_
      clear hs0 hs1 hs10 hs11 hs22 hs9 hs1000000
      refine wcond (v_42) rfl (fun hb => ?_) (fun hb => ?_)
      · rw [if_pos hb] at hm
        clear hb
        refine wseq ?_
        refine wregion ?_
        refine lv (v := (.int .i64 3)) rfl rfl (r_assign rfl) ?_
        refine lnil ?_
        refine wret ?_
        cases hm
        exact ⟨rfl, rfl, hst.below⟩
      · rw [if_neg (by rw [hb]; decide)] at hm
        clear hb
        refine wskip ?_
        refine wregion ?_
        refine lv (v := (.int .i64 (IntKind.i64.wrap ((k_1 : Int) + 1)))) rfl rfl (r_add (k_1 : Int) 1 rfl rfl) ?_
        refine lv (v := (.int .i64 (IntKind.i64.wrap ((k_1 : Int) + 1)))) rfl rfl (r_move rfl) ?_
        refine lnil ?_
        exact ⟨l_6.length, by simp, ⟨col_41, (k_1 + 1), l_6, rfl, hl2, hm, hst, h0, h1, (congrArg (Value.int .i64) (wrap_succ (Nat.lt_of_lt_of_le hlt h1.1.1))), rfl, rfl, rfl, rfl, rfl⟩⟩
    · refine wregion ?_
      refine lv (v := (.int .i64 x_5)) rfl rfl (r_move rfl) ?_
      refine lv (v := (.bool (decide (x_5 < 0)))) rfl rfl (r_lss x_5 0 rfl rfl) ?_
      refine lv (v := (.bool (decide (x_5 < 0)))) rfl rfl (r_move rfl) ?_
      by_cases hg_43 : (decide (x_5 < 0)) = true
      · rw [if_pos hg_43] at hm
        refine lp (b := decide (x_5 < 0)) 17 rfl rfl rfl rfl (by rw [hg_43]; rfl) ?_
        refine lp (b := decide (x_5 < 0)) 17 rfl rfl rfl rfl (by rw [hg_43]; rfl) ?_
        refine lp (b := decide (x_5 < 0)) 17 rfl rfl rfl rfl (by rw [hg_43]; rfl) ?_
        refine lp (b := decide (x_5 < 0)) 17 rfl rfl rfl rfl (by rw [hg_43]; rfl) ?_
        refine lv (v := (.bool true)) rfl rfl (r_pickT (congrArg Value.bool hg_43) rfl) ?_
        refine lnil ?_
        exact ⟨col_4, true, hm, hst, h0, h1, rfl, rfl, rfl, rfl, rfl, rfl, rfl⟩
      · rw [if_neg hg_43] at hm
        replace hg_43 := Bool.eq_false_iff.2 hg_43
        refine lg (b := decide (x_5 < 0)) 17 rfl rfl rfl (by rw [hg_43]; rfl) ?_
        refine lv (v := (.int .i64 x_5)) rfl rfl (r_move rfl) ?_
        refine lg (b := decide (x_5 < 0)) 17 rfl rfl rfl (by rw [hg_43]; rfl) ?_
        refine lv (v := (.pointer (some ⟨o0.g, 0, none⟩))) rfl rfl (r_move rfl) ?_
        refine lg (b := decide (x_5 < 0)) 17 rfl rfl rfl (by rw [hg_43]; rfl) ?_
        obtain ⟨r_44, hr_45, hm⟩ := bind_some hm
        refine lc rfl rfl (r_call1 Try.call15 rfl) (c_graph_Graph_Len col_4 _ 999 (by decide) o0 p0_g h0 r_44 hr_45) ?_
        rintro _ w_46 ⟨rfl, hg_47⟩
        refine ⟨_, rfl, ?_⟩
        replace hg_47 : Grow col_4 w_3 col_4 w_46 := .of_below hg_47
        replace h0 := h0.gr hg_47
        replace h1 := h1.gr hg_47
        replace hst := hst.grow hg_47
        refine lg (b := decide (x_5 < 0)) 17 rfl rfl rfl (by rw [hg_43]; rfl) ?_
        refine lv (v := (.bool (decide (r_44 ≤ x_5)))) rfl rfl (r_geq x_5 r_44 rfl rfl) ?_
        refine lv (v := (.bool (decide (r_44 ≤ x_5)))) rfl rfl (r_pickF (congrArg Value.bool hg_43) rfl) ?_
        refine lnil ?_
        exact ⟨col_4, (decide (r_44 ≤ x_5)), hm, hst, h0, h1, rfl, rfl, rfl, rfl, rfl, rfl, rfl⟩




def m_graph_Graph_Near (p0_g : List (List Bool)) (p1_a : Int) : Option (List Int) :=
  (m_graph_Graph_in p0_g p1_a).bind fun r_1 => if (!r_1) = true then (some ([] : List Int)) else ((at? p0_g p1_a).bind fun row_5 => chk (row_5.length ≤ 1048576) (some (gkeys row_5)))

set_option maxRecDepth 100000 in
set_option maxHeartbeats 2000000 in
theorem c_graph_Graph_Near (c1 : Nat) (col : Col) (w0 : World) (qc0 : Nat) (hqqc0 : qc0 ≠ 0) (o0 : GObj) (p0_g : List (List Bool)) (p1_a : Int) (h0 : GO 85 86 qc0 col w0 o0 p0_g) (r : (List Int)) (hm : m_graph_Graph_Near p0_g p1_a = some r) :
    Calls Try.prog 22 #[(.pointer (some ⟨o0.g, 0, none⟩)), (.int .i64 p1_a)] w0 (fun e w' => ∃ (col' : Col) (ra1 : Option Addr) (rc2 : Nat), e = .returned ((.slice ra1 r.length rc2)) ∧ Grow col w0 col' w' ∧ Own (Rep.int .i64) 3 c1 col' w' ra1 rc2 r) := by
  refine calls_of1 4 (m := 18) (args := [(.pointer (some ⟨o0.g, 0, none⟩)), (.int .i64 p1_a)]) Try.func22 rfl rfl rfl rfl rfl ?_
  rw [m_graph_Graph_Near.eq_1] at hm
  have hst := St.start col w0
  replace h0 := h0.start0 hqqc0
  refine wseq ?_
  refine wregion ?_
  refine lv (v := (.slice none (([] : List Int).length) 0)) rfl rfl (r_assign rfl) ?_
  refine lnil ?_
  refine wseq ?_
  refine wseq ?_
  refine wregion ?_
  refine lv (v := (.pointer (some ⟨o0.g, 0, none⟩))) rfl rfl (r_move rfl) ?_
  refine lv (v := (.int .i64 p1_a)) rfl rfl (r_move rfl) ?_
  obtain ⟨r_1, hr_2, hm⟩ := bind_some hm
  refine lc rfl rfl (r_call2 Try.call54 rfl rfl) (c_graph_Graph_in (col0 col) _ 999 (by decide) o0 p0_g p1_a h0 r_1 hr_2) ?_
  rintro _ w_3 ⟨rfl, hg_4⟩
  refine ⟨_, rfl, ?_⟩
  replace hg_4 : Grow (col0 col) w0 (col0 col) w_3 := .of_below hg_4
  replace h0 := h0.gr hg_4
  replace hst := hst.grow hg_4
  refine lv (v := (.bool (!r_1))) rfl rfl (r_not r_1 rfl) ?_
  refine lnil ?_
  refine wcond (!r_1) rfl (fun hb => ?_) (fun hb => ?_)
  · rw [if_pos hb] at hm
    clear hb
    refine wseq ?_
    refine wregion ?_
    refine lv (v := (.slice none (([] : List Int).length) 0)) rfl rfl (r_assign rfl) ?_
    refine lnil ?_
    refine wret ?_
    cases hm
    exact ⟨rfl, colF w0.heap.size col (col0 col) (fun n => 0), none, 0, rfl, hst.fin (fun n => 0), Own.nil⟩
  · rw [if_neg (by rw [hb]; decide)] at hm
    clear hb
    refine wskip ?_
    refine wseq ?_
    refine wregion ?_
    refine lv (v := (.pointer (some ⟨o0.g, 0, none⟩))) rfl rfl (r_move rfl) ?_
    refine lv (v := (.pointer (some ⟨o0.g, 0, none⟩))) rfl rfl (r_nilCheck rfl) ?_
    refine lv (v := (.pointer ((some (⟨o0.g, 0, none⟩ : Addr)).map (·.add 0)))) rfl rfl (r_fieldAddr (sz := 1) (off := 0) Try.underlying85 rfl Try.sizeOf83 (by decide) rfl rfl ⟨_, _, rfl⟩) ?_
    refine lv (v := (.slice o0.a p0_g.length o0.cap)) rfl rfl (r_ld Try.isAgg83 rfl ((h0.box.atN).nth (q := 0) (v := (.slice o0.a p0_g.length o0.cap)) rfl)) ?_
    refine lv (v := (.int .i64 p1_a)) rfl rfl (r_move rfl) ?_
    obtain ⟨row_5, hj_6, hm⟩ := bind_some hm
    obtain ⟨b_7, hb_8, _, hb_9⟩ := h0.blk hj_6
    refine lv (v := (sptr o0.a (Int.toNat p1_a * 1))) rfl rfl (r_idx Try.underlying83 Try.sizeOf86 rfl rfl (at?_some hj_6).1 (at?_some hj_6).2.1 (h0.addr hb_8)) ?_
    refine lv (v := (.map (some b_7))) rfl rfl (r_ld Try.isAgg86 rfl (h0.at1 hb_8)) ?_
    refine lc rfl rfl (r_call1 Try.call56 rfl) (c_keys 1 b_7 (col0 col) _) ?_
    rintro _ w_10 ⟨col_11, g_12, rfl, hg_13, hb_14⟩
    refine ⟨_, rfl, ?_⟩
    replace h0 := h0.gr hg_13
    replace hst := hst.grow hg_13
    obtain ⟨hc_21, hm⟩ := chk_some hm
    refine lc rfl rfl (r_call1 Try.call55 rfl) (c_sortedKeys 2 1 999 b_7 g_12 col_11 _ row_5 hb_14 (h0.maps _ _ _ hb_9 (at?_some hj_6).2.2) hc_21) ?_
    rintro _ w_15 ⟨col_16, a_17, cap_18, rfl, hg_19, h_20⟩
    refine ⟨_, rfl, ?_⟩
    replace h0 := h0.gr hg_19
    replace hst := hst.grow hg_19
    refine lv (v := (.slice a_17 ((gkeys row_5).length) cap_18)) rfl rfl (r_assign rfl) ?_
    refine lnil ?_
    refine wret ?_
    cases hm
    exact ⟨rfl, colF w0.heap.size col col_16 (fun n => bif Nat.beq n 2 then c1 else 0), a_17, cap_18, rfl, hst.fin (fun n => bif Nat.beq n 2 then c1 else 0), hst.finOwn (g := (fun n => bif Nat.beq n 2 then c1 else 0)) rfl h_20 (by decide) (by decide) rfl⟩



set_option maxRecDepth 100000 in
theorem el47_69 : ElemOk Try.prog 47 2 16 := ⟨Try.t47, _, rfl, rfl, rfl, rfl, rfl⟩

def m_graph_Graph_list_J1 (kk_L2 : ((List (Int × Int)) → Option (List (Int × Int)))) (l_29 : List (Int × Int)) : Option (List (Int × Int)) :=
  kk_L2 l_29

def m_graph_Graph_list_L2 (v_4 : Int) (kk_L1 : (Int → (List (Int × Int)) → Option (List (Int × Int)))) : List Int → (List (Int × Int)) → Option (List (Int × Int))
  | [], l_21 => kk_L1 (IntKind.i64.wrap (v_4 + 1)) l_21
  | x_25 :: l_26, l_21 => if (decide (v_4 < x_25)) = true then (chk ((l_21.length + [(v_4, x_25)].length) * 16 ≤ 140737488355328 ∧ l_21.length + [(v_4, x_25)].length ≤ maxLen) (m_graph_Graph_list_J1 (m_graph_Graph_list_L2 v_4 kk_L1 l_26) (l_21 ++ [(v_4, x_25)]))) else (m_graph_Graph_list_J1 (m_graph_Graph_list_L2 v_4 kk_L1 l_26) l_21)

def m_graph_Graph_list_L1 (N : Nat) (p0_g : List (List Bool)) : Nat → Int → (List (Int × Int)) → Option (List (Int × Int))
  | 0, _, _ => none
  | n_1 + 1, v_4, l_5 => if (decide (v_4 < (p0_g.length : Int))) = true then ((m_graph_Graph_Near p0_g v_4).bind fun r_9 => m_graph_Graph_list_L2 v_4 (m_graph_Graph_list_L1 N p0_g n_1) r_9 l_5) else (some l_5)

def m_graph_Graph_list (N : Nat) (p0_g : List (List Bool)) : Option (List (Int × Int)) :=
  m_graph_Graph_list_L1 N p0_g N 0 ([] : List (Int × Int))

set_option maxRecDepth 100000 in
set_option maxHeartbeats 2000000 in
theorem c_graph_Graph_list (N : Nat) (c1 : Nat) (col : Col) (w0 : World) (qc0 : Nat) (hqqc0 : qc0 ≠ 0) (o0 : GObj) (p0_g : List (List Bool)) (h0 : GO 85 86 qc0 col w0 o0 p0_g) (r : (List (Int × Int))) (hm : m_graph_Graph_list N p0_g = some r) :
    Calls Try.prog 69 #[(.pointer (some ⟨o0.g, 0, none⟩))] w0 (fun e w' => ∃ (col' : Col) (ra1 : Option Addr) (rc2 : Nat), e = .returned ((.slice ra1 r.length rc2)) ∧ Grow col w0 col' w' ∧ Own (Rep.pair (Rep.int .i64) (Rep.int .i64)) 47 c1 col' w' ra1 rc2 r) := by
  refine calls_of1 2 (m := 35) (args := [(.pointer (some ⟨o0.g, 0, none⟩))]) Try.func69 rfl rfl rfl rfl rfl ?_
  rw [m_graph_Graph_list.eq_1] at hm
  have hst := St.start col w0
  replace h0 := h0.start0 hqqc0
  refine wseq ?_
  refine wregion ?_
  refine lv (v := (.slice none (([] : List (Int × Int)).length) 0)) rfl rfl (r_assign rfl) ?_
  refine lnil ?_
  refine wseq ?_
  refine wregion ?_
  refine lv (v := (.slice none (([] : List (Int × Int)).length) 0)) rfl rfl (r_assign rfl) ?_
  refine lnil ?_
  refine wseq ?_
  refine wseq ?_
  refine wregion ?_
  refine lv (v := (.pointer (some ⟨o0.g, 0, none⟩))) rfl rfl (r_move rfl) ?_
  refine lv (v := (.pointer (some ⟨o0.g, 0, none⟩))) rfl rfl (r_nilCheck rfl) ?_
  refine lv (v := (.pointer ((some (⟨o0.g, 0, none⟩ : Addr)).map (·.add 0)))) rfl rfl (r_fieldAddr (sz := 1) (off := 0) Try.underlying85 rfl Try.sizeOf83 (by decide) rfl rfl ⟨_, _, rfl⟩) ?_
  refine lv (v := (.slice o0.a p0_g.length o0.cap)) rfl rfl (r_ld Try.isAgg83 rfl ((h0.box.atN).nth (q := 0) (v := (.slice o0.a p0_g.length o0.cap)) rfl)) ?_
  refine lv (v := (.int .i64 (p0_g.length : Int))) rfl rfl (r_len Try.underlying83 rfl) ?_
  refine lv (v := (.int .i64 0)) rfl rfl (r_move rfl) ?_
  refine lnil ?_
  refine wblock ?_
  refine wloop (fun n f w_2 => ∃ (col_3 : Col) (v_4 : Int) (a_6 : Option Addr) (cap_7 : Nat) (l_5 : List (Int × Int)) (n_1 : Nat), n_1 = n ∧ m_graph_Graph_list_L1 N p0_g n_1 v_4 l_5 = some r ∧ St w0 (col0 col) col_3 w_2 ∧ GO 85 86 999 col_3 w_2 o0 p0_g ∧ Own (Rep.pair (Rep.int .i64) (Rep.int .i64)) 47 1 col_3 w_2 a_6 cap_7 l_5 ∧ f 0 = (.pointer (some ⟨o0.g, 0, none⟩)) ∧ f 11 = (.int .i64 (p0_g.length : Int)) ∧ f 12 = (.int .i64 v_4) ∧ f 3 = (.slice a_6 l_5.length cap_7) ∧ f 1000000 = (enc [])) N ⟨(col0 col), 0, none, 0, ([] : List (Int × Int)), N, rfl, hm, hst, h0, Own.nil, rfl, rfl, rfl, rfl, rfl⟩ ?_
  clear hm; intro n f w_2 hI
  obtain ⟨col_3, v_4, a_6, cap_7, l_5, n_1, hn, hm, hst, h0, h_8, hs0, hs11, hs12, hs3, hs1000000⟩ := hI
  subst hn
  refine .ld (d := 0) (v := (.pointer (some ⟨o0.g, 0, none⟩))) hs0 ?_
  refine .ld (d := 11) (v := (.int .i64 (p0_g.length : Int))) hs11 ?_
  refine .ld (d := 12) (v := (.int .i64 v_4)) hs12 ?_
  refine .ld (d := 3) (v := (.slice a_6 l_5.length cap_7)) hs3 ?_
  refine .ld (d := 1000000) (v := (enc [])) hs1000000 ?_
  clear hs0 hs11 hs12 hs3 hs1000000
  cases n_1 with
  | zero => rw [m_graph_Graph_list_L1.eq_1] at hm; cases hm
  | succ n_1 =>
    rw [m_graph_Graph_list_L1.eq_2] at hm
    refine wseq ?_
    refine wregion ?_
    refine lv (v := (.bool (decide (v_4 < (p0_g.length : Int))))) rfl rfl (r_lss v_4 (p0_g.length : Int) rfl rfl) ?_
    refine lnil ?_
    refine wseq ?_
    refine wcond (decide (v_4 < (p0_g.length : Int))) rfl (fun hb => ?_) (fun hb => ?_)
    · rw [if_pos hb] at hm
      clear hb
      refine wskip ?_
      refine wseq ?_
      refine wblock ?_
      refine wseq ?_
      refine wregion ?_
      refine lv (v := (.int .i64 v_4)) rfl rfl (r_move rfl) ?_
      refine lv (v := (.int .i64 v_4)) rfl rfl (r_assign rfl) ?_
      refine lnil ?_
      refine wseq ?_
      refine wregion ?_
      refine lv (v := (.pointer (some ⟨o0.g, 0, none⟩))) rfl rfl (r_move rfl) ?_
      refine lv (v := (.int .i64 v_4)) rfl rfl (r_move rfl) ?_
      obtain ⟨r_9, hr_10, hm⟩ := bind_some hm
      refine lc rfl rfl (r_call2 Try.call22 rfl rfl) (c_graph_Graph_Near 2 col_3 _ 999 (by decide) o0 p0_g v_4 h0 r_9 hr_10) ?_
      rintro _ w_14 ⟨col_16, ra_11, rc_12, rfl, hg_15, rh_13⟩
      refine ⟨_, rfl, ?_⟩
      replace h0 := h0.gr hg_15
      replace h_8 := h_8.gr hg_15
      replace hst := hst.grow hg_15
      refine lv (v := (.int .i64 (r_9.length : Int))) rfl rfl (r_len Try.underlying22 rfl) ?_
      refine lv (v := (.int .i64 0)) rfl rfl (r_move rfl) ?_
      refine lnil ?_
      refine wblock ?_
      refine wloop (fun n f w_19 => ∃ (col_20 : Col) (k_17 : Nat) (a_22 : Option Addr) (cap_23 : Nat) (l_21 : List (Int × Int)) (l_18 : List Int), n = l_18.length ∧ r_9.drop k_17 = l_18 ∧ m_graph_Graph_list_L2 v_4 (m_graph_Graph_list_L1 N p0_g n_1) l_18 l_21 = some r ∧ St w0 (col0 col) col_20 w_19 ∧ GO 85 86 999 col_20 w_19 o0 p0_g ∧ Own (Rep.int .i64) 3 2 col_20 w_19 ra_11 rc_12 r_9 ∧ Own (Rep.pair (Rep.int .i64) (Rep.int .i64)) 47 1 col_20 w_19 a_22 cap_23 l_21 ∧ f 19 = (.int .i64 (k_17 : Int)) ∧ f 0 = (.pointer (some ⟨o0.g, 0, none⟩)) ∧ f 11 = (.int .i64 (p0_g.length : Int)) ∧ f 12 = (.int .i64 v_4) ∧ f 17 = (.slice ra_11 r_9.length rc_12) ∧ f 18 = (.int .i64 (r_9.length : Int)) ∧ f 3 = (.slice a_22 l_21.length cap_23) ∧ f 4 = (.int .i64 v_4) ∧ f 1000000 = (enc [])) r_9.length ⟨col_16, 0, a_6, cap_7, l_5, r_9, rfl, rfl, hm, hst, h0, rh_13, h_8, rfl, rfl, rfl, rfl, rfl, rfl, rfl, rfl, rfl⟩ ?_
      clear hm; intro n f w_19 hI
      obtain ⟨col_20, k_17, a_22, cap_23, l_21, l_18, hn, hl, hm, hst, h0, rh_13, h_24, hs19, hs0, hs11, hs12, hs17, hs18, hs3, hs4, hs1000000⟩ := hI
      subst hn
      refine .ld (d := 19) (v := (.int .i64 (k_17 : Int))) hs19 ?_
      refine .ld (d := 0) (v := (.pointer (some ⟨o0.g, 0, none⟩))) hs0 ?_
      refine .ld (d := 11) (v := (.int .i64 (p0_g.length : Int))) hs11 ?_
      refine .ld (d := 12) (v := (.int .i64 v_4)) hs12 ?_
      refine .ld (d := 17) (v := (.slice ra_11 r_9.length rc_12)) hs17 ?_
      refine .ld (d := 18) (v := (.int .i64 (r_9.length : Int))) hs18 ?_
      refine .ld (d := 3) (v := (.slice a_22 l_21.length cap_23)) hs3 ?_
      refine .ld (d := 4) (v := (.int .i64 v_4)) hs4 ?_
      refine .ld (d := 1000000) (v := (enc [])) hs1000000 ?_
      clear hs19 hs0 hs11 hs12 hs17 hs18 hs3 hs4 hs1000000
      cases l_18 with
      | nil =>
        have hk : ¬ ((k_17 : Int) < (r_9.length : Int)) := by have := List.drop_eq_nil_iff.1 hl; omega
        have hkb := decide_eq_false hk
        rw [m_graph_Graph_list_L2.eq_1] at hm
        refine wseq ?_
        refine wregion ?_
        refine lv (v := (.bool (decide ((k_17 : Int) < (r_9.length : Int))))) rfl rfl (r_lss (k_17 : Int) (r_9.length : Int) rfl rfl) ?_
        refine lnil ?_
        refine wseq ?_
        refine wcondF (congrArg Value.bool hkb) ?_
        refine wexit (inB_hit ?_)
        refine wregion ?_
        refine lv (v := (.int .i64 (IntKind.i64.wrap (v_4 + 1)))) rfl rfl (r_add v_4 1 rfl rfl) ?_
        refine lv (v := (.int .i64 (IntKind.i64.wrap (v_4 + 1)))) rfl rfl (r_move rfl) ?_
        refine lnil ?_
        exact ⟨n_1, by omega, ⟨col_20, (IntKind.i64.wrap (v_4 + 1)), a_22, cap_23, l_21, n_1, rfl, hm, hst, h0, h_24, rfl, rfl, rfl, rfl, rfl⟩⟩
      | cons x_25 l_26 =>
        obtain ⟨hat, hl2, hlt⟩ := drop_get hl
        have hk : (k_17 : Int) < (r_9.length : Int) := by omega
        have hkb := decide_eq_true hk
        rw [m_graph_Graph_list_L2.eq_2] at hm
        refine wseq ?_
        refine wregion ?_
        refine lv (v := (.bool (decide ((k_17 : Int) < (r_9.length : Int))))) rfl rfl (r_lss (k_17 : Int) (r_9.length : Int) rfl rfl) ?_
        refine lnil ?_
        refine wseq ?_
        refine wcondT (congrArg Value.bool hkb) ?_
        refine wskip ?_
        refine wseq ?_
        refine Wp.cut (fun f w_27 => ∃ (col_28 : Col) (a_30 : Option Addr) (cap_31 : Nat) (l_29 : List (Int × Int)), m_graph_Graph_list_J1 (m_graph_Graph_list_L2 v_4 (m_graph_Graph_list_L1 N p0_g n_1) l_26) l_29 = some r ∧ St w0 (col0 col) col_28 w_27 ∧ GO 85 86 999 col_28 w_27 o0 p0_g ∧ Own (Rep.int .i64) 3 2 col_28 w_27 ra_11 rc_12 r_9 ∧ Own (Rep.pair (Rep.int .i64) (Rep.int .i64)) 47 1 col_28 w_27 a_30 cap_31 l_29 ∧ f 0 = (.pointer (some ⟨o0.g, 0, none⟩)) ∧ f 11 = (.int .i64 (p0_g.length : Int)) ∧ f 12 = (.int .i64 v_4) ∧ f 17 = (.slice ra_11 r_9.length rc_12) ∧ f 18 = (.int .i64 (r_9.length : Int)) ∧ f 19 = (.int .i64 (k_17 : Int)) ∧ f 3 = (.slice a_30 l_29.length cap_31) ∧ f 4 = (.int .i64 v_4) ∧ f 1000000 = (enc [])) ?_ ?_
        · intro f w_27 hJ
          obtain ⟨col_28, a_30, cap_31, l_29, hm, hst, h0, rh_13, h_32, hs0, hs11, hs12, hs17, hs18, hs19, hs3, hs4, hs1000000⟩ := hJ
          rw [m_graph_Graph_list_J1.eq_1] at hm
          refine .ld (d := 0) (v := (.pointer (some ⟨o0.g, 0, none⟩))) hs0 ?_
          refine .ld (d := 11) (v := (.int .i64 (p0_g.length : Int))) hs11 ?_
          refine .ld (d := 12) (v := (.int .i64 v_4)) hs12 ?_
          refine .ld (d := 17) (v := (.slice ra_11 r_9.length rc_12)) hs17 ?_
          refine .ld (d := 18) (v := (.int .i64 (r_9.length : Int))) hs18 ?_
          refine .ld (d := 19) (v := (.int .i64 (k_17 : Int))) hs19 ?_
          refine .ld (d := 3) (v := (.slice a_30 l_29.length cap_31)) hs3 ?_
          refine .ld (d := 4) (v := (.int .i64 v_4)) hs4 ?_
          refine .ld (d := 1000000) (v := (enc [])) hs1000000 ?_
          clear hs0 hs11 hs12 hs17 hs18 hs19 hs3 hs4 hs1000000
          refine wregion ?_
          refine lv (v := (.int .i64 (IntKind.i64.wrap ((k_17 : Int) + 1)))) rfl rfl (r_add (k_17 : Int) 1 rfl rfl) ?_
          refine lv (v := (.int .i64 (IntKind.i64.wrap ((k_17 : Int) + 1)))) rfl rfl (r_move rfl) ?_
          refine lnil ?_
          exact ⟨l_26.length, by simp, ⟨col_28, (k_17 + 1), a_30, cap_31, l_29, l_26, rfl, hl2, hm, hst, h0, rh_13, h_32, (congrArg (Value.int .i64) (wrap_succ (Nat.lt_of_lt_of_le hlt rh_13.len))), rfl, rfl, rfl, rfl, rfl, rfl, rfl, rfl⟩⟩
        · refine wblock ?_
          refine wseq ?_
          refine wregion ?_
          refine lv (v := (sptr ra_11 (Int.toNat (k_17 : Int) * 1))) rfl rfl (r_idx Try.underlying22 Try.sizeOf3 rfl rfl (at?_some hat).1 (at?_some hat).2.1 (rh_13.addr hat)) ?_
          refine lv (v := (.int .i64 x_25)) rfl rfl (r_ld Try.isAgg3 rfl (rh_13.atInt hat)) ?_
          refine lv (v := (.int .i64 x_25)) rfl rfl (r_assign rfl) ?_
          refine lnil ?_
          refine wseq ?_
          refine wregion ?_
          refine lv (v := (.int .i64 v_4)) rfl rfl (r_move rfl) ?_
          refine lv (v := (.int .i64 x_25)) rfl rfl (r_move rfl) ?_
          refine lv (v := (.bool (decide (v_4 < x_25)))) rfl rfl (r_lss v_4 x_25 rfl rfl) ?_
          refine lnil ?_
          refine wcond (decide (v_4 < x_25)) rfl (fun hb => ?_) (fun hb => ?_)
          · rw [if_pos hb] at hm
            clear hb
            refine wregion ?_
            refine lv (v := (.slice a_22 l_21.length cap_23)) rfl rfl (r_move rfl) ?_
            refine lv (v := (.int .i64 v_4)) rfl rfl (r_move rfl) ?_
            refine lv (v := (.int .i64 x_25)) rfl rfl (r_move rfl) ?_
            refine lv (v := (.agg #[(.int .i64 v_4), (.int .i64 x_25)])) rfl rfl (r_build (l := [_, _]) (qs := [(0, 1), (1, 1)]) Try.underlying47 Try.zeroValue47 ⟨rfl, Try.sizeOf3, rfl, Try.sizeOf3, trivial⟩ rfl) ?_
            refine l_lit (col := col_20) (r := (Rep.pair (Rep.int .i64) (Rep.int .i64))) (xs := [(v_4, x_25)]) [(.agg #[(.int .i64 v_4), (.int .i64 x_25)])] 3 rfl Try.underlying29 el47_69 rfl rfl rfl rfl rfl rfl (by intro v hv; simp only [List.mem_cons, List.not_mem_nil, or_false] at hv; subst hv; rfl) (RowsH.ofF (Rows.consF (r := (Rep.pair (Rep.int .i64) (Rep.int .i64))) (x := (v_4, x_25)) (cs := [(.int .i64 v_4), (.int .i64 x_25)]) (rd_pairI (rd_int .i64 v_4) (rd_int .i64 x_25)) Rows.nil0)) ?_
            intro a_33 w_34 col_35 hg_36 h_37
            replace h0 := h0.gr hg_36
            replace rh_13 := rh_13.gr hg_36
            replace h_24 := h_24.gr hg_36
            replace hst := hst.grow hg_36
            obtain ⟨hb_38, hm⟩ := chk_some hm
            refine l_appendM (col := col_35) (w := w_34) (r := (Rep.pair (Rep.int .i64) (Rep.int .i64))) (c := 1) (c2 := 1) (xs := l_21) (ys := [(v_4, x_25)]) h_24 (h_37.srcN (NB.pair (NB.int (k := .i64)) (NB.int (k := .i64)))) rfl Try.underlying29 el47_69 rfl rfl rfl hb_38.1 hb_38.2 (by decide) ?_
            intro a_39 cap_40 w_41 col_42 hk_43 h_44
            replace h0 := h0.kpp hk_43 rfl rfl
            replace rh_13 := rh_13.kpp hk_43 rfl rfl
            replace h_37 := h_37.kpp hk_43 rfl rfl
            replace hst := hst.kpp hk_43 rfl rfl
            clear h_24
            refine lv (v := (.slice a_39 ((l_21 ++ [(v_4, x_25)]).length) cap_40)) rfl rfl (r_assign rfl) ?_
            refine lnil ?_
            exact ⟨col_42, a_39, cap_40, (l_21 ++ [(v_4, x_25)]), hm, hst, h0, rh_13, h_44, rfl, rfl, rfl, rfl, rfl, rfl, rfl, rfl, rfl⟩
          · rw [if_neg (by rw [hb]; decide)] at hm
            clear hb
            refine wskip ?_
            exact ⟨col_20, a_22, cap_23, l_21, hm, hst, h0, rh_13, h_24, rfl, rfl, rfl, rfl, rfl, rfl, rfl, rfl, rfl⟩
    · rw [if_neg (by rw [hb]; decide)] at hm
      clear hb
      refine wexit (inB_hit ?_)
      refine wseq ?_
      refine wregion ?_
      refine lv (v := (.slice a_6 l_5.length cap_7)) rfl rfl (r_move rfl) ?_
      refine lv (v := (.slice a_6 l_5.length cap_7)) rfl rfl (r_assign rfl) ?_
      refine lnil ?_
      refine wret ?_
      cases hm
      exact ⟨rfl, colF w0.heap.size col col_3 (fun n => bif Nat.beq n 1 then c1 else 0), a_6, cap_7, rfl, hst.fin (fun n => bif Nat.beq n 1 then c1 else 0), hst.finOwn (g := (fun n => bif Nat.beq n 1 then c1 else 0)) rfl h_8 (by decide) (by decide) rfl⟩




def m_graph_Graph_Edges_1_L1  : List (Int × Int) → Option (List (Int × Int))
  | [] => some []
  | x_5 :: l_6 => ((m_graph_Graph_Edges_1_L1 l_6) ).bind fun r_20 => some ((x_5.1, x_5.2) :: r_20)

def m_graph_Graph_Edges_1 (v0_v : List (Int × Int)) : Option (List (Int × Int)) :=
  m_graph_Graph_Edges_1_L1 v0_v 

set_option maxRecDepth 100000 in
set_option maxHeartbeats 2000000 in
theorem c_graph_Graph_Edges_1 (col : Col) (w0 : World) (g0 : Nat) (af0 : Option Addr) (capf0 : Nat) (v0_v : List (Int × Int)) (hf0 : Own (Rep.pair (Rep.int .i64) (Rep.int .i64)) 47 450 col w0 af0 capf0 v0_v) (hb0 : Box 29 450 col w0 g0 #[(.slice af0 v0_v.length capf0)]) (r : List (Int × Int)) (hm : m_graph_Graph_Edges_1 v0_v = some r) :
    Goes Try.prog 93 [(.pointer (some ⟨g0, 0, none⟩))] (fun (y : (Int × Int)) (col : Col) (w : World) (args : List Value) => args = [(.agg #[(.int .i64 y.1), (.int .i64 y.2)])]) r col w0 := by
  intro l J X hjs hxs hy hst
  refine calls_of0 (m := 16) (args := [.func (.yield l) #[] #[], (.pointer (some ⟨g0, 0, none⟩))]) Try.func93 rfl rfl rfl rfl ?_
  rw [m_graph_Graph_Edges_1.eq_1] at hm
  refine wseq ?_
  refine wregion ?_
  refine lv (v := (.slice af0 v0_v.length capf0)) rfl rfl (r_ld Try.isAgg29 rfl hb0.at1) ?_
  refine lv (v := (.int .i64 (v0_v.length : Int))) rfl rfl (r_len Try.underlying29 rfl) ?_
  refine lv (v := (.int .i64 0)) rfl rfl (r_move rfl) ?_
  refine lnil ?_
  refine wblock ?_
  refine wloop (fun n f w_3 => ∃ (col_4 : Col) (r : List (Int × Int)) (k_1 : Nat) (l_2 : List (Int × Int)), n = l_2.length ∧ v0_v.drop k_1 = l_2 ∧ m_graph_Graph_Edges_1_L1 l_2  = some r ∧ J r col_4 w_3 ∧ Own (Rep.pair (Rep.int .i64) (Rep.int .i64)) 47 450 col_4 w_3 af0 capf0 v0_v ∧ Box 29 450 col_4 w_3 g0 #[(.slice af0 v0_v.length capf0)] ∧ f 7 = (.int .i64 (k_1 : Int)) ∧ f 0 = (.func (.yield l) #[] #[]) ∧ f 5 = (.slice af0 v0_v.length capf0) ∧ f 6 = (.int .i64 (v0_v.length : Int)) ∧ f 1000000 = (enc [])) v0_v.length ⟨col, r, 0, v0_v, rfl, rfl, hm, hst, hf0, hb0, rfl, rfl, rfl, rfl, rfl⟩ ?_
  clear hm; intro n f w_3 hI
  obtain ⟨col_4, r, k_1, l_2, hn, hl, hm, hst, hf0, hb0, hs7, hs0, hs5, hs6, hs1000000⟩ := hI
  subst hn
  refine .ld (d := 7) (v := (.int .i64 (k_1 : Int))) hs7 ?_
  refine .ld (d := 0) (v := (.func (.yield l) #[] #[])) hs0 ?_
  refine .ld (d := 5) (v := (.slice af0 v0_v.length capf0)) hs5 ?_
  refine .ld (d := 6) (v := (.int .i64 (v0_v.length : Int))) hs6 ?_
  refine .ld (d := 1000000) (v := (enc [])) hs1000000 ?_
  clear hs7 hs0 hs5 hs6 hs1000000
  cases l_2 with
  | nil =>
    have hk : ¬ ((k_1 : Int) < (v0_v.length : Int)) := by have := List.drop_eq_nil_iff.1 hl; omega
    have hkb := decide_eq_false hk
    rw [m_graph_Graph_Edges_1_L1.eq_1] at hm
    refine wseq ?_
    refine wregion ?_
    refine lv (v := (.bool (decide ((k_1 : Int) < (v0_v.length : Int))))) rfl rfl (r_lss (k_1 : Int) (v0_v.length : Int) rfl rfl) ?_
    refine lnil ?_
    refine wseq ?_
    refine wcondF (congrArg Value.bool hkb) ?_
    refine wexit (inB_hit ?_)
    cases hm
    exact ⟨rfl, ⟨_, rfl⟩, _, .inl hst⟩
  | cons x_5 l_6 =>
    obtain ⟨hat, hl2, hlt⟩ := drop_get hl
    have hk : (k_1 : Int) < (v0_v.length : Int) := by omega
    have hkb := decide_eq_true hk
    rw [m_graph_Graph_Edges_1_L1.eq_2] at hm
    refine wseq ?_
    refine wregion ?_
    refine lv (v := (.bool (decide ((k_1 : Int) < (v0_v.length : Int))))) rfl rfl (r_lss (k_1 : Int) (v0_v.length : Int) rfl rfl) ?_
    refine lnil ?_
    refine wseq ?_
    refine wcondT (congrArg Value.bool hkb) ?_
    refine wskip ?_
    refine wseq ?_
    refine wblock ?_
    refine wseq ?_
    refine wregion ?_
    refine lv (v := (sptr af0 (Int.toNat (k_1 : Int) * 2))) rfl rfl (r_idx Try.underlying29 Try.sizeOf47 rfl rfl (at?_some hat).1 (at?_some hat).2.1 (hf0.addr hat)) ?_
    obtain ⟨_, hr_7, hA_8⟩ := hf0.atN hat
    obtain ⟨_, _, rfl, hp_9, hp_10⟩ := hr_7.parts
    obtain rfl := hp_9.int
    obtain rfl := hp_10.int
    refine lv (v := (.agg #[(.int .i64 x_5.1), (.int .i64 x_5.2)])) rfl rfl (r_ldN Try.isAgg47 Try.sizeOf47 rfl rfl hA_8) ?_
    refine l_alloc (col := col_4) (v := (.agg #[(.int .i64 0), (.int .i64 0)])) 501 rfl Try.zeroValue47 ?_
    intro g_11 w_12 col_13 hg_14 hb_15
    replace hf0 := hf0.gr hg_14
    replace hb0 := hb0.gr hg_14
    replace hst := hjs _ _ _ _ _ hst hg_14.toP
    replace hb_15 : Box 47 501 col_13 w_12 g_11 #[(.int .i64 0), (.int .i64 0)] := hb_15
    refine l_bstore (v := (.agg #[(.int .i64 x_5.1), (.int .i64 x_5.2)])) hb_15 Try.sizeOf47 rfl rfl (by intro u hu; simp only [Value.cells, List.mem_cons, List.not_mem_nil, or_false] at hu; rcases hu with rfl | rfl <;> rfl) rfl rfl ?_
    intro w_16 hk_17 hs_18 hb_19
    replace hf0 := hf0.kp hk_17 (by decide) (by decide)
    replace hb0 := hb0.kp hk_17 (by decide)
    replace hst := hjs _ _ _ _ _ hst (hk_17.toP hs_18 rfl)
    clear hb_15
    replace hb_19 : Box 47 501 col_13 w_16 g_11 #[(.int .i64 x_5.1), (.int .i64 x_5.2)] := hb_19
    refine lnil ?_
    refine wseq ?_
    refine wregion ?_
    refine lv (v := (.func (.yield l) #[] #[])) rfl rfl (r_move rfl) ?_
    refine lv (v := (.agg #[(.int .i64 x_5.1), (.int .i64 x_5.2)])) rfl rfl (r_ldN Try.isAgg47 Try.sizeOf47 rfl rfl hb_19.atN) ?_
    obtain ⟨r_20, hc_21m, hc_21⟩ := bind_some hm
    cases hc_21
    have hm := hc_21m
    clear hc_21m
    refine ly1 rfl rfl rfl (hy _ _ _ _ [(.agg #[(.int .i64 x_5.1), (.int .i64 x_5.2)])] hst rfl) ?_
    rintro _ w_22 ⟨col_23, hk_24, ⟨rfl, hJ⟩ | ⟨rfl, hX⟩⟩
    · refine ⟨_, rfl, ?_⟩
      clear hst
      replace hf0 := hf0.kpp hk_24 rfl rfl
      replace hb0 := hb0.kpp hk_24 rfl
      have hst := hJ
      clear hJ
      refine lv (v := (.bool false)) rfl rfl (r_not true rfl) ?_
      refine lnil ?_
      refine wcondF rfl ?_
      refine wskip ?_
      refine wregion ?_
      refine lv (v := (.int .i64 (IntKind.i64.wrap ((k_1 : Int) + 1)))) rfl rfl (r_add (k_1 : Int) 1 rfl rfl) ?_
      refine lv (v := (.int .i64 (IntKind.i64.wrap ((k_1 : Int) + 1)))) rfl rfl (r_move rfl) ?_
      refine lnil ?_
      exact ⟨l_6.length, by simp, ⟨col_23, r_20, (k_1 + 1), l_6, rfl, hl2, hm, hst, hf0, hb0, (congrArg (Value.int .i64) (wrap_succ (Nat.lt_of_lt_of_le hlt hf0.len))), rfl, rfl, rfl, rfl⟩⟩
    · clear hm
      refine ⟨_, rfl, ?_⟩
      clear hst
      replace hf0 := hf0.kpp hk_24 rfl rfl
      replace hb0 := hb0.kpp hk_24 rfl
      have hst := hX
      clear hX
      refine lv (v := (.bool true)) rfl rfl (r_not false rfl) ?_
      refine lnil ?_
      refine wcondT rfl ?_
      refine wret ?_
      exact ⟨rfl, ⟨_, rfl⟩, _, .inr hst⟩




def m_graph_Graph_Edges (N : Nat) (p0_g : List (List Bool)) : Option (List (Int × Int)) :=
  (m_graph_Graph_list N p0_g).bind fun r_1 => m_graph_Graph_Edges_1 r_1

set_option maxRecDepth 100000 in
set_option maxHeartbeats 2000000 in
theorem c_graph_Graph_Edges (N : Nat) (col : Col) (w0 : World) (qc0 : Nat) (hqqc0 : qc0 ≠ 0) (o0 : GObj) (p0_g : List (List Bool)) (h0 : GO 85 86 qc0 col w0 o0 p0_g) (r : (List (Int × Int))) (hm : m_graph_Graph_Edges N p0_g = some r) :
    Calls Try.prog 64 #[(.pointer (some ⟨o0.g, 0, none⟩))] w0 (fun e w' => ∃ (col' : Col) (rv1 : Value), e = .returned (rv1) ∧ Grow col w0 col' w' ∧ It Try.prog rv1 (fun (y : (Int × Int)) (col : Col) (w : World) (args : List Value) => args = [(.agg #[(.int .i64 y.1), (.int .i64 y.2)])]) r q0 col' w') := by
  refine calls_of1 2 (m := 7) (args := [(.pointer (some ⟨o0.g, 0, none⟩))]) Try.func64 rfl rfl rfl rfl rfl ?_
  rw [m_graph_Graph_Edges.eq_1] at hm
  have hst := St.start col w0
  replace h0 := h0.start0 hqqc0
  refine wseq ?_
  refine wregion ?_
  refine lv (v := _) rfl rfl (r_assign rfl) ?_
  refine lnil ?_
  refine wseq ?_
  refine wregion ?_
  refine lv (v := (.pointer (some ⟨o0.g, 0, none⟩))) rfl rfl (r_move rfl) ?_
  obtain ⟨r_1, hr_2, hm⟩ := bind_some hm
  refine lc rfl rfl (r_call1 Try.call69 rfl) (c_graph_Graph_list N 1 (col0 col) _ 999 (by decide) o0 p0_g h0 r_1 hr_2) ?_
  rintro _ w_6 ⟨col_8, ra_3, rc_4, rfl, hg_7, rh_5⟩
  refine ⟨_, rfl, ?_⟩
  replace h0 := h0.gr hg_7
  replace hst := hst.grow hg_7
  refine l_alloc (col := col_8) (v := (.slice none (([] : List (Int × Int)).length) 0)) 2 rfl Try.zeroValue29 ?_
  intro g_9 w_10 col_11 hg_12 hb_13
  replace rh_5 := rh_5.gr hg_12
  replace hst := hst.grow hg_12
  replace hb_13 : Box 29 2 col_11 w_10 g_9 #[(.slice none (([] : List (Int × Int)).length) 0)] := hb_13
  refine l_bstore (v := (.slice ra_3 r_1.length rc_4)) hb_13 Try.sizeOf29 rfl rfl (by intro u hu; simp only [Value.cells, List.mem_cons, List.not_mem_nil, or_false] at hu; subst hu; rfl) rfl rfl ?_
  intro w_14 hk_15 hs_16 hb_17
  replace rh_5 := rh_5.kp hk_15 (by decide) (by decide)
  replace hst := hst.kp hk_15 hs_16 (by decide) (by decide)
  clear hb_13
  replace hb_17 : Box 29 2 col_11 w_14 g_9 #[(.slice ra_3 r_1.length rc_4)] := hb_17
  refine lnil ?_
  refine wseq ?_
  refine wregion ?_
  refine lv (v := (.func (.func 93) #[] #[(.pointer (some ⟨g_9, 0, none⟩))])) rfl rfl (r_func1 rfl) ?_
  refine lv (v := (.func (.func 93) #[] #[(.pointer (some ⟨g_9, 0, none⟩))])) rfl rfl (r_assign rfl) ?_
  refine lnil ?_
  refine wret ?_
  have hb_17f := hst.finBox (G := (fun n => bif Nat.beq n 2 then 450 else bif Nat.beq n 1 then 450 else 0)) hb_17 (by decide) (by decide) (show (fun n => bif Nat.beq n 2 then 450 else bif Nat.beq n 1 then 450 else 0) 2 = 450 from rfl)
  have rh_5f := hst.finOwn (g := (fun n => bif Nat.beq n 2 then 450 else bif Nat.beq n 1 then 450 else 0)) rfl rh_5 (by decide) (by decide) (show (fun n => bif Nat.beq n 2 then 450 else bif Nat.beq n 1 then 450 else 0) 1 = 450 from rfl)
  refine ⟨rfl, colF w0.heap.size col col_11 (fun n => bif Nat.beq n 2 then 450 else bif Nat.beq n 1 then 450 else 0), _, rfl, hst.fin (fun n => bif Nat.beq n 2 then 450 else bif Nat.beq n 1 then 450 else 0), 93, [(.pointer (some ⟨g_9, 0, none⟩))], rfl, Try.call93, ?_⟩
  intro col9 w9 hs9 hk9
  replace hb_17f := hb_17f.itk hs9 hk9 rfl
  replace rh_5f := rh_5f.itk hs9 hk9 rfl (flat_pair (flat_int .i64) (flat_int .i64))
  exact c_graph_Graph_Edges_1  col9 w9 g_9 ra_3 rc_4 r_1 rh_5f hb_17f r hm




def m_order_copied_L1  : List (Int × Int) → Option (Option (List (List Bool)))
  | [] => some none
  | y_34 :: l_35 => none

def m_order_copied_L2  : List (Int × Int) → (List (List Bool)) → Option (Option (List (List Bool)))
  | [], h_74 => some (some h_74)
  | y_76 :: l_77, h_74 => (m_graph_Graph_Join h_74 y_76.1 y_76.2).bind fun r_98 => (m_order_copied_L2 l_77) r_98.2

def m_order_copied (N : Nat) (p0_g : List (List Bool)) : Option (Option (List (List Bool))) :=
  (m_graph_Graph_Len p0_g).bind fun r_1 => (m_graph_New r_1).bind fun r_5 => optC (r_5.1) ((m_graph_Graph_Edges N p0_g).bind fun r_25 => m_order_copied_L1 r_25 ) (fun t_12 => (m_graph_Graph_Edges N p0_g).bind fun r_65 => m_order_copied_L2 r_65 t_12)

set_option maxRecDepth 100000 in
set_option maxHeartbeats 2000000 in
theorem c_order_copied (N : Nat) (c1 : Nat) (col : Col) (w0 : World) (qc0 : Nat) (hqqc0 : qc0 ≠ 0) (o0 : GObj) (p0_g : List (List Bool)) (h0 : GO 85 86 qc0 col w0 o0 p0_g) (r : (Option (List (List Bool)))) (hm : m_order_copied N p0_g = some r) :
    Calls Try.prog 76 #[(.pointer (some ⟨o0.g, 0, none⟩))] w0 (fun e w' => ∃ (col' : Col) (rv1 : Value), e = .returned (rv1) ∧ Grow col w0 col' w' ∧ optP rv1 r (fun (d : List (List Bool)) => ∃ (o9 : GObj), rv1 = .pointer (some ⟨o9.g, 0, none⟩) ∧ GO 85 86 c1 col' w' o9 d)) := by
  refine calls_ofM1 2 (m := 22) (args := [(.pointer (some ⟨o0.g, 0, none⟩))]) Try.func76 rfl rfl rfl rfl rfl ?_
  rw [m_order_copied.eq_1] at hm
  have hst := St.start col w0
  replace h0 := h0.start0 hqqc0
  have hmk : Marks (col0 col) w0 [] := .nil
  refine wseq ?_
  refine wregion ?_
  refine lv (v := (.pointer none)) rfl rfl (r_assign rfl) ?_
  refine lnil ?_
  refine wseq ?_
  refine wregion ?_
  refine lv (v := (.pointer (some ⟨o0.g, 0, none⟩))) rfl rfl (r_move rfl) ?_
  obtain ⟨r_1, hr_2, hm⟩ := bind_some hm
  refine lc rfl rfl (r_call1 Try.call15 rfl) (c_graph_Graph_Len (col0 col) _ 999 (by decide) o0 p0_g h0 r_1 hr_2) ?_
  rintro _ w_3 ⟨rfl, hg_4⟩
  refine ⟨_, rfl, ?_⟩
  replace hg_4 : Grow (col0 col) w0 (col0 col) w_3 := .of_below hg_4
  replace h0 := h0.gr hg_4
  replace hmk := hmk.gr hg_4
  replace hst := hst.grow hg_4
  obtain ⟨r_5, hr_6, hm⟩ := bind_some hm
  refine lc rfl rfl (r_call1 Try.call51 rfl) (c_graph_New 1 (col0 col) _ r_1 r_5 hr_6) ?_
  rintro _ w_9 ⟨col_11, rv_7, rfl, hg_10, rh_8⟩
  refine ⟨_, rfl, ?_⟩
  replace h0 := h0.gr hg_10
  replace hmk := hmk.gr hg_10
  replace hst := hst.grow hg_10
  cases hx_13 : r_5.1 with
  | none =>
    rw [hx_13] at hm rh_8
    replace hm := optC_none hm
    obtain rfl := optP_none rh_8
    clear rh_8
    refine lv (v := (.tuple #[(.pointer none), (.int .i64 r_5.2)])) rfl rfl (r_move rfl) ?_
    refine lv (v := (.pointer none)) rfl rfl (r_extract rfl rfl) ?_
    refine lv (v := (.int .i64 r_5.2)) rfl rfl (r_extract rfl rfl) ?_
    refine l_alloc (col := col_11) (v := (.pointer none)) 2 rfl Try.zeroValue24 ?_
    intro g_16 w_17 col_18 hg_19 hb_20
    replace h0 := h0.gr hg_19
    replace hmk := hmk.gr hg_19
    replace hst := hst.grow hg_19
    replace hb_20 : Box 24 2 col_18 w_17 g_16 #[(.pointer none)] := hb_20
    refine l_bstore (v := (.pointer none)) hb_20 Try.sizeOf24 rfl rfl (by intro u hu; simp only [Value.cells, List.mem_cons, List.not_mem_nil, or_false] at hu; subst hu; rfl) rfl rfl ?_
    intro w_21 hk_22 hs_23 hb_24
    replace h0 := h0.kp hk_22 (by decide) (by decide)
    replace hmk := hmk.kp hk_22 (by decide)
    replace hst := hst.kp hk_22 hs_23 (by decide) (by decide)
    clear hb_20
    replace hb_24 : Box 24 2 col_18 w_21 g_16 #[(.pointer none)] := hb_24
    refine lv (v := (.int .i64 r_5.2)) rfl rfl (r_assign rfl) ?_
    refine lnil ?_
    refine wseq ?_
    refine wseq ?_
    refine wregion ?_
    refine lv (v := (.pointer (some ⟨o0.g, 0, none⟩))) rfl rfl (r_move rfl) ?_
    obtain ⟨r_25, hr_26, hm⟩ := bind_some hm
    refine lc rfl rfl (r_call1 Try.call64 rfl) (c_graph_Graph_Edges N col_18 _ 999 (by decide) o0 p0_g h0 r_25 hr_26) ?_
    rintro _ w_29 ⟨col_31, rv_27, rfl, hg_30, rh_28⟩
    refine ⟨_, rfl, ?_⟩
    replace h0 := h0.gr hg_30
    replace hb_24 := hb_24.gr hg_30
    replace hmk := hmk.gr hg_30
    replace hst := hst.grow hg_30
    refine lnil ?_
    refine wblock ?_
    refine wrange (psl := [14]) (arr := (fun (y : (Int × Int)) (col : Col) (w : World) (args : List Value) => args = [(.agg #[(.int .i64 y.1), (.int .i64 y.2)])])) (ys := r_25) (col := col_31) 498 rfl rh_28 rfl hmk rfl rfl (by rintro _ _ _ _ rfl; rfl) (fun ys_ col_33 w_32 => m_order_copied_L1 ys_  = some r ∧ St w0 (col0 col) col_33 w_32 ∧ Box 24 2 col_33 w_32 g_16 #[(.pointer none)]) (fun _ _ _ => False) ?_ ?_ ⟨hm, hst, hb_24⟩ ?_ ?_ ?_
    · intro ys_ col_33 w_32 col2_ w2_ hJ hk
      obtain ⟨hm, hst, hb_24⟩ := hJ
      exact ⟨hm, hst.kpp hk rfl rfl, hb_24.kpp hk rfl⟩
    · intro _ _ _ _ _ h _
      exact h
    · intro l_40 rc_41 ds_42 y_34 l_35 col_33 w_32 args hJ hrec hmk harr
      obtain ⟨hm, hst, hb_24⟩ := hJ
      rw [m_order_copied_L1.eq_2] at hm
      have hki := KeepP.refl pCo col_33 w_32
      subst harr
      refine wregion ?_
      refine l_alloc (col := col_33) (v := (.agg #[(.int .i64 0), (.int .i64 0)])) 3 rfl Try.zeroValue47 ?_
      intro g_43 w_44 col_45 hg_46 hb_47
      replace hb_24 := hb_24.gr hg_46
      replace hrec := hrec.gr hg_46
      replace hmk := hmk.gr hg_46
      replace hki := hki.gr hg_46
      replace hst := hst.grow hg_46
      replace hb_47 : Box 47 3 col_45 w_44 g_43 #[(.int .i64 0), (.int .i64 0)] := hb_47
      refine l_bstore (v := (.agg #[(.int .i64 y_34.1), (.int .i64 y_34.2)])) hb_47 Try.sizeOf47 rfl rfl (by intro u hu; simp only [Value.cells, List.mem_cons, List.not_mem_nil, or_false] at hu; rcases hu with rfl | rfl <;> rfl) rfl rfl ?_
      intro w_48 hk_49 hs_50 hb_51
      replace hb_24 := hb_24.kp hk_49 (by decide)
      replace hrec := hrec.kp hk_49 (by decide)
      replace hmk := hmk.kp hk_49 (by decide)
      replace hki := hki.kp hk_49 hs_50 rfl
      replace hst := hst.kp hk_49 hs_50 (by decide) (by decide)
      clear hb_47
      replace hb_51 : Box 47 3 col_45 w_48 g_43 #[(.int .i64 y_34.1), (.int .i64 y_34.2)] := hb_51
      refine lnil ?_
      refine ⟨_, hrec, ?_⟩
      intro w_52 rc_53 hk_54 hs_55 hrec2
      replace hb_24 := hb_24.kp hk_54 (by decide)
      replace hb_51 := hb_51.kp hk_54 (by decide)
      replace hmk := hmk.kp hk_54 (by decide)
      replace hki := hki.kp hk_54 hs_55 rfl
      replace hst := hst.kp hk_54 hs_55 (by decide) (by decide)
      clear hrec
      have hrec := hrec2
      clear hrec2
      refine wblock ?_
      refine wregion ?_
      refine lv (v := (.pointer none)) rfl rfl (r_ld Try.isAgg24 rfl hb_24.at1) ?_
      refine lv (v := (.pointer ((some (⟨g_43, 0, none⟩ : Addr)).map (·.add 0)))) rfl rfl (r_fieldAddr (sz := 1) (off := 0) Try.underlying47 rfl Try.sizeOf3 (by decide) rfl rfl ⟨_, _, rfl⟩) ?_
      refine lv (v := (.int .i64 y_34.1)) rfl rfl (r_ld Try.isAgg3 rfl ((hb_51.atN).nth (q := 0) (v := (.int .i64 y_34.1)) rfl)) ?_
      refine lv (v := (.pointer ((some (⟨g_43, 0, none⟩ : Addr)).map (·.add 1)))) rfl rfl (r_fieldAddr (sz := 1) (off := 1) Try.underlying47 rfl Try.sizeOf3 (by decide) rfl rfl ⟨_, _, rfl⟩) ?_
      refine lv (v := (.int .i64 y_34.2)) rfl rfl (r_ld Try.isAgg3 rfl ((hb_51.atN).nth (q := 1) (v := (.int .i64 y_34.2)) rfl)) ?_
      cases hm
    · clear hmk
      intro D_36 col_33 w_32 hJ hmk
      obtain ⟨hm, hst, hb_24⟩ := hJ
      rw [m_order_copied_L1.eq_1] at hm
      refine wseq ?_
      refine wregion ?_
      refine lv (v := (.pointer none)) rfl rfl (r_ld Try.isAgg24 rfl hb_24.at1) ?_
      refine lv (v := (.pointer none)) rfl rfl (r_assign rfl) ?_
      refine lnil ?_
      refine wret ?_
      cases hm
      refine ⟨_, (D_36 :: []), rfl, hmk, ?_⟩
      intro w_37 hk_38 hs_39
      clear hmk
      replace hst := hst.kp hk_38 hs_39 (by decide) (by decide)
      exact ⟨colF w0.heap.size col col_33 (fun n => 0), (.pointer none), rfl, hst.fin (fun n => 0), optP_no⟩
    · intro _ _ _ _ h
      exact h.elim
  | some t_12 =>
    rw [hx_13] at hm rh_8
    replace hm := optC_some hm
    obtain ⟨o_14, rfl, hG_15⟩ := optP_some rh_8
    refine lv (v := (.tuple #[(.pointer (some ⟨o_14.g, 0, none⟩)), (.int .i64 r_5.2)])) rfl rfl (r_move rfl) ?_
    refine lv (v := (.pointer (some ⟨o_14.g, 0, none⟩))) rfl rfl (r_extract rfl rfl) ?_
    refine lv (v := (.int .i64 r_5.2)) rfl rfl (r_extract rfl rfl) ?_
    refine l_alloc (col := col_11) (v := (.pointer none)) 4 rfl Try.zeroValue24 ?_
    intro g_56 w_57 col_58 hg_59 hb_60
    replace h0 := h0.gr hg_59
    replace hG_15 := hG_15.gr hg_59
    replace hmk := hmk.gr hg_59
    replace hst := hst.grow hg_59
    replace hb_60 : Box 24 4 col_58 w_57 g_56 #[(.pointer none)] := hb_60
    refine l_bstore (v := (.pointer (some ⟨o_14.g, 0, none⟩))) hb_60 Try.sizeOf24 rfl rfl (by intro u hu; simp only [Value.cells, List.mem_cons, List.not_mem_nil, or_false] at hu; subst hu; rfl) rfl rfl ?_
    intro w_61 hk_62 hs_63 hb_64
    replace h0 := h0.kp hk_62 (by decide) (by decide)
    replace hG_15 := hG_15.kp hk_62 (by decide) (by decide)
    replace hmk := hmk.kp hk_62 (by decide)
    replace hst := hst.kp hk_62 hs_63 (by decide) (by decide)
    clear hb_60
    replace hb_64 : Box 24 4 col_58 w_61 g_56 #[(.pointer (some ⟨o_14.g, 0, none⟩))] := hb_64
    refine lv (v := (.int .i64 r_5.2)) rfl rfl (r_assign rfl) ?_
    refine lnil ?_
    refine wseq ?_
    refine wseq ?_
    refine wregion ?_
    refine lv (v := (.pointer (some ⟨o0.g, 0, none⟩))) rfl rfl (r_move rfl) ?_
    obtain ⟨r_65, hr_66, hm⟩ := bind_some hm
    refine lc rfl rfl (r_call1 Try.call64 rfl) (c_graph_Graph_Edges N col_58 _ 999 (by decide) o0 p0_g h0 r_65 hr_66) ?_
    rintro _ w_69 ⟨col_71, rv_67, rfl, hg_70, rh_68⟩
    refine ⟨_, rfl, ?_⟩
    replace hG_15 := hG_15.gr hg_70
    replace h0 := h0.gr hg_70
    replace hb_64 := hb_64.gr hg_70
    replace hmk := hmk.gr hg_70
    replace hst := hst.grow hg_70
    refine lnil ?_
    refine wblock ?_
    refine wrange (psl := [14]) (arr := (fun (y : (Int × Int)) (col : Col) (w : World) (args : List Value) => args = [(.agg #[(.int .i64 y.1), (.int .i64 y.2)])])) (ys := r_65) (col := col_71) 498 rfl rh_68 rfl hmk rfl rfl (by rintro _ _ _ _ rfl; rfl) (fun ys_ col_73 w_72 => ∃ (h_74 : List (List Bool)), m_order_copied_L2 ys_ h_74 = some r ∧ St w0 (col0 col) col_73 w_72 ∧ GO 85 86 1 col_73 w_72 o_14 h_74 ∧ Box 24 4 col_73 w_72 g_56 #[(.pointer (some ⟨o_14.g, 0, none⟩))]) (fun _ _ _ => False) ?_ ?_ ⟨t_12, hm, hst, hG_15, hb_64⟩ ?_ ?_ ?_
    · intro ys_ col_73 w_72 col2_ w2_ hJ hk
      obtain ⟨h_74, hm, hst, h_75, hb_64⟩ := hJ
      exact ⟨h_74, hm, hst.kpp hk rfl rfl, h_75.kpp hk rfl rfl, hb_64.kpp hk rfl⟩
    · intro _ _ _ _ _ h _
      exact h
    · intro l_82 rc_83 ds_84 y_76 l_77 col_73 w_72 args hJ hrec hmk harr
      obtain ⟨h_74, hm, hst, h_75, hb_64⟩ := hJ
      rw [m_order_copied_L2.eq_2] at hm
      have hki := KeepP.refl pCo col_73 w_72
      subst harr
      refine wregion ?_
      refine l_alloc (col := col_73) (v := (.agg #[(.int .i64 0), (.int .i64 0)])) 5 rfl Try.zeroValue47 ?_
      intro g_85 w_86 col_87 hg_88 hb_89
      replace h_75 := h_75.gr hg_88
      replace hb_64 := hb_64.gr hg_88
      replace hrec := hrec.gr hg_88
      replace hmk := hmk.gr hg_88
      replace hki := hki.gr hg_88
      replace hst := hst.grow hg_88
      replace hb_89 : Box 47 5 col_87 w_86 g_85 #[(.int .i64 0), (.int .i64 0)] := hb_89
      refine l_bstore (v := (.agg #[(.int .i64 y_76.1), (.int .i64 y_76.2)])) hb_89 Try.sizeOf47 rfl rfl (by intro u hu; simp only [Value.cells, List.mem_cons, List.not_mem_nil, or_false] at hu; rcases hu with rfl | rfl <;> rfl) rfl rfl ?_
      intro w_90 hk_91 hs_92 hb_93
      replace h_75 := h_75.kp hk_91 (by decide) (by decide)
      replace hb_64 := hb_64.kp hk_91 (by decide)
      replace hrec := hrec.kp hk_91 (by decide)
      replace hmk := hmk.kp hk_91 (by decide)
      replace hki := hki.kp hk_91 hs_92 rfl
      replace hst := hst.kp hk_91 hs_92 (by decide) (by decide)
      clear hb_89
      replace hb_93 : Box 47 5 col_87 w_90 g_85 #[(.int .i64 y_76.1), (.int .i64 y_76.2)] := hb_93
      refine lnil ?_
      refine ⟨_, hrec, ?_⟩
      intro w_94 rc_95 hk_96 hs_97 hrec2
      replace h_75 := h_75.kp hk_96 (by decide) (by decide)
      replace hb_64 := hb_64.kp hk_96 (by decide)
      replace hb_93 := hb_93.kp hk_96 (by decide)
      replace hmk := hmk.kp hk_96 (by decide)
      replace hki := hki.kp hk_96 hs_97 rfl
      replace hst := hst.kp hk_96 hs_97 (by decide) (by decide)
      clear hrec
      have hrec := hrec2
      clear hrec2
      refine wblock ?_
      refine wregion ?_
      refine lv (v := (.pointer (some ⟨o_14.g, 0, none⟩))) rfl rfl (r_ld Try.isAgg24 rfl hb_64.at1) ?_
      refine lv (v := (.pointer ((some (⟨g_85, 0, none⟩ : Addr)).map (·.add 0)))) rfl rfl (r_fieldAddr (sz := 1) (off := 0) Try.underlying47 rfl Try.sizeOf3 (by decide) rfl rfl ⟨_, _, rfl⟩) ?_
      refine lv (v := (.int .i64 y_76.1)) rfl rfl (r_ld Try.isAgg3 rfl ((hb_93.atN).nth (q := 0) (v := (.int .i64 y_76.1)) rfl)) ?_
      refine lv (v := (.pointer ((some (⟨g_85, 0, none⟩ : Addr)).map (·.add 1)))) rfl rfl (r_fieldAddr (sz := 1) (off := 1) Try.underlying47 rfl Try.sizeOf3 (by decide) rfl rfl ⟨_, _, rfl⟩) ?_
      refine lv (v := (.int .i64 y_76.2)) rfl rfl (r_ld Try.isAgg3 rfl ((hb_93.atN).nth (q := 1) (v := (.int .i64 y_76.2)) rfl)) ?_
      obtain ⟨r_98, hr_99, hm⟩ := bind_some hm
      refine lc rfl rfl (r_call3 Try.call23 rfl rfl rfl) (c_graph_Graph_Join col_87 _ 1 rfl o_14 h_74 y_76.1 y_76.2 h_75 r_98 hr_99) ?_
      rintro _ w_101 ⟨col_103, rfl, hg_102, oh_100⟩
      refine ⟨_, rfl, ?_⟩
      replace hb_64 := hb_64.kpp hg_102 rfl
      replace hrec := hrec.kpp hg_102 rfl
      replace hmk := hmk.kpp hg_102 rfl
      replace hki := hki.trans (hg_102.mono (by first | exact pCo_p2 rfl | exact pCo_p1 rfl | exact pCo_pS rfl | decide))
      replace hst := hst.kpp hg_102 rfl rfl
      clear h_75
      refine lnil ?_
      exact ⟨_, hki, ⟨r_98.2, hm, hst, oh_100, hb_64⟩, hrec, hmk⟩
    · clear hmk
      intro D_78 col_73 w_72 hJ hmk
      obtain ⟨h_74, hm, hst, h_75, hb_64⟩ := hJ
      rw [m_order_copied_L2.eq_1] at hm
      refine wseq ?_
      refine wregion ?_
      refine lv (v := (.pointer (some ⟨o_14.g, 0, none⟩))) rfl rfl (r_ld Try.isAgg24 rfl hb_64.at1) ?_
      refine lv (v := (.pointer (some ⟨o_14.g, 0, none⟩))) rfl rfl (r_assign rfl) ?_
      refine lnil ?_
      refine wret ?_
      cases hm
      refine ⟨_, (D_78 :: []), rfl, hmk, ?_⟩
      intro w_79 hk_80 hs_81
      clear hmk
      replace h_75 := h_75.kp hk_80 (by decide) (by decide)
      replace hst := hst.kp hk_80 hs_81 (by decide) (by decide)
      exact ⟨colF w0.heap.size col col_73 (fun n => bif Nat.beq n 1 then c1 else 0), (.pointer (some ⟨o_14.g, 0, none⟩)), rfl, hst.fin (fun n => bif Nat.beq n 1 then c1 else 0), optP_of ⟨_, rfl, hst.finGO (G := (fun n => bif Nat.beq n 1 then c1 else 0)) rfl h_75 (by decide) (by decide) rfl⟩⟩
    · intro _ _ _ _ h
      exact h.elim


end Go.Proofs.Ytgkofjmeopbkbaa
