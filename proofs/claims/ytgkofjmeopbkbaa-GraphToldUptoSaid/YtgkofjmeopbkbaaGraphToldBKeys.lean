/-
  The keys of a map, sorted: the library's contracts in the words of the printed proofs.
-/
import Derived.Test.YtgkofjmeopbkbaaGraphToldBGraph
import Derived.Test.YtgkofjmeopbkbaaGraphToldBLibSort
import Derived.Test.YtgkofjmeopbkbaaShelf
import Derived.Shelf.SlMaps.Clone
import Derived.Test.YtgkofjmeopbkbaaProg
set_option linter.unusedVariables false
namespace Go.Proofs.Ytgkofjmeopbkbaa
open Go Go.RowKit Go.Maps Go.Sort Go.WideElems

theorem gkeys_mem {row : List Bool} {k : Int} : k ∈ gkeys row ↔ gat row k = true := by
  unfold gkeys gat
  rw [List.mem_map]
  constructor
  · rintro ⟨n, hn, rfl⟩
    rw [List.mem_filter] at hn
    rw [if_pos (by simp)]; simpa using hn.2
  · intro h
    split at h
    · rename_i h0
      refine ⟨k.toNat, List.mem_filter.2 ⟨List.mem_range.2 ?_, by simpa using h⟩, by simp; omega⟩
      by_cases hl : k.toNat < row.length
      · exact hl
      · rw [List.getElem?_eq_none (by omega)] at h; cases h
    · cases h
theorem gkeys_rises {row : List Bool} : (gkeys row).Pairwise (· < ·) := by
  unfold gkeys
  rw [List.pairwise_map]
  refine (List.Pairwise.filter _ (List.pairwise_lt_range)).imp fun h => ?_
  simpa using h
theorem gkeys_nodup {row : List Bool} : (gkeys row).Nodup := gkeys_rises.imp fun h => by omega
theorem gkeys_length_le {row : List Bool} : (gkeys row).length ≤ row.length := by
  unfold gkeys; rw [List.length_map]
  exact Nat.le_trans (List.length_filter_le _ _) (by simp)

theorem c_keys (c b : Nat) (col : Col) (w : World) :
    Calls Try.prog 56 #[.map (some b)] w fun e w' => ∃ (col' : Col) (g : Nat), e = .returned (.func (.func 87) #[] #[.pointer (some ⟨g, 0, none⟩)]) ∧ Grow col w col' w' ∧ Box 86 c col' w' g #[.map (some b)] := by
  have h : CallsIn Fence.wide 5 Try.prog 56 #[.map (some b)] w fun e w' => e = .returned (.func (.func 87) #[] #[.pointer (some ⟨w.heap.size, 0, none⟩)]) ∧ w' = w.alloc (.cells #[.map (some b)] 86) := AnyZI.keys_in Try.keysA Fence.wide 5 trivial rfl (some b) w
  refine (callsIn_wide.1 h).mono ?_
  rintro e w' ⟨rfl, rfl⟩
  obtain ⟨h1, h2⟩ := Box.fresh (e := 86) (col := col) (w := w) #[.map (some b)] c
  exact ⟨_, _, rfl, h1, h2⟩

theorem c_clone (c c3 b : Nat) (row : List Bool) (col : Col) (w : World) (hM : MapB c3 col w b row) :
    Calls Try.prog 52 #[.map (some b)] w fun e w' => ∃ (col' : Col) (b' : Nat), e = .returned (.map (some b')) ∧ Grow col w col' w' ∧ MapB c col' w' b' row := by
  obtain ⟨_, es, clock, hb, hes⟩ := hM
  have h : Calls Try.prog 52 #[.map (some b)] w fun e w' => e = .returned (.map (some w.heap.size)) ∧ w' = w.alloc (.map (es.map mkE).toArray clock) := AnyW.maps_Clone Try.cloneA b _ clock w hb
  refine h.mono ?_
  rintro e w' ⟨rfl, rfl⟩
  exact ⟨paint col w c, w.heap.size, rfl, Grow.new (below_alloc w _) c, by simp [paint], es, clock, World.alloc_heap_new w _, hes⟩

theorem sortsA (m : Nat) : AnyZI.SortsIn Try.prog Try.sortedA_ren Fence.wide m :=
  ⟨fun blk off cap ss W hH hblk hsz => callsIn_wide.2 (AnyM.slices_Sort_int Try.sortA blk off cap ss W hH hblk hsz),
   fun p cap W => callsIn_wide.2 (AnyM.slices_Sort_int_none Try.sortA p cap W)⟩

set_option maxRecDepth 100000 in
set_option maxHeartbeats 1000000 in
theorem c_sortedKeys (c1 c2 c3 b g : Nat) (col : Col) (w : World) (row : List Bool) (hB : Box 86 c2 col w g #[.map (some b)]) (hM : MapB c3 col w b row) (hl : row.length ≤ 1048576) :
    Calls Try.prog 55 #[.func (.func 87) #[] #[.pointer (some ⟨g, 0, none⟩)]] w fun e w' => ∃ (col' : Col) (ra : Option Addr) (rc : Nat), e = .returned (.slice ra (gkeys row).length rc) ∧ Grow col w col' w' ∧ Own (Rep.int .i64) 3 c1 col' w' ra rc (gkeys row) := by
  obtain ⟨_, es, clock, hb, hes⟩ := hM
  let R : Value → Option (DataW Unit × List MemPlace) := fun _ => some (.lit (.bool true), [])
  have hu : Try.prog.underlying 3 = some (.int .i64) := Try.underlying3
  have hwf : ∀ k : Int, gat row k = true → (Lit.int .i64 k).wf = true := fun k hk => by
    have h1 : 0 ≤ k ∧ k.toNat < row.length := by
      unfold gat at hk; split at hk
      · rename_i h0
        refine ⟨h0, ?_⟩
        by_cases h : k.toNat < row.length
        · exact h
        · rw [List.getElem?_eq_none (by omega)] at hk; cases hk
      · cases hk
    have e1 : IntKind.i64.min = -9223372036854775808 := by decide
    have e2 : IntKind.i64.max = 9223372036854775807 := by decide
    simp only [Lit.wf, Bool.and_eq_true, decide_eq_true_eq, e1, e2]
    omega
  have hrd : ∀ p ∈ es, rd Try.prog 3 R (mkE p) = some (.int .i64 p.1, .lit (.bool true)) := fun p hp =>
    rd_mk (R := R) (val := .bool true) (yv := (.lit (.bool true), [])) (born := p.2) (keyOf_int_mk hu (hwf _ ((hes.iff p.1).1 (List.mem_map.2 ⟨p, hp, rfl⟩)))) rfl
  have hkp : (es.map (·.1)).Perm (gkeys row) := (List.perm_ext_iff_of_nodup hes.keys gkeys_nodup).2 fun k => by rw [hes.iff k, gkeys_mem]
  have hlen : es.length ≤ row.length := by
    have h1 : (es.map (·.1)).length = (gkeys row).length := hkp.length_eq
    rw [List.length_map] at h1
    exact Nat.le_trans (Nat.le_of_eq h1) gkeys_length_le
  have hfit : Fit Try.prog 3 R (es.map mkE).toArray clock := by
    refine ⟨by simp only [List.size_toArray, List.length_map, maxLen]; omega, ⟨fun x hx => ?_, ?_, ?_⟩, fun x hx => ?_⟩
    · have hx' : x ∈ es.map mkE := hx
      obtain ⟨p, hp, rfl⟩ := List.mem_map.1 hx'
      exact hes.lt p hp
    · have : (es.map mkE).map (·.born) = es.map (·.2) := by rw [List.map_map]; rfl
      simpa [this] using hes.born
    · have : (es.map mkE).map (·.key) = (es.map (·.1)).map (Value.int .i64) := by rw [List.map_map, List.map_map]; rfl
      rw [this]
      refine List.pairwise_map.2 (hes.keys.imp fun h e => h (by injection e))
    · have hx' : x ∈ es.map mkE := hx
      obtain ⟨p, hp, rfl⟩ := List.mem_map.1 hx'
      exact ⟨_, hrd p hp⟩
  let E : List (Lit × DataW Unit) := es.map fun p => (.int .i64 p.1, .lit (.bool true))
  have hE : ((es.map mkE).toArray.toList.map (rg Try.prog 3 R)) = E := by
    show (es.map mkE).map (rg Try.prog 3 R) = E
    rw [List.map_map]
    exact List.map_congr_left fun p hp => rg_of (hrd p hp)
  let D : DataW Unit := .map (E.foldr DataW.insert [])
  have hperm : (E.foldr DataW.insert []).Perm E := Go.WideShapes.sorted_perm E
  have hown : w.ownsMap Try.prog 3 R b es.length D := ⟨_, clock, hb, hfit, Nat.le_of_eq (by rw [List.size_toArray, List.length_map]), by rw [hE]⟩
  have hsize : Maps.size D = es.length := by
    show (E.foldr DataW.insert []).length = _
    rw [hperm.length_eq]; simp [E]
  have hk1 : (intKeys D).Perm (gkeys row) := by
    have h1 : (intKeys D).Perm (intKeys (.map E : DataW Unit)) := hperm.map _
    have h2 : intKeys (.map E : DataW Unit) = es.map (·.1) := by
      show (E.map _) = _
      simp only [E, List.map_map]; rfl
    rw [h2] at h1
    exact h1.trans hkp
  have hblt : g < w.heap.size := (Array.getElem?_eq_some_iff.1 hB.2).1
  have hcell : w.cell? ⟨g, 0, none⟩ = some (.map (some b)) := by
    obtain ⟨b', o', h1, h2⟩ := hB.at1
    simp only [Value.pointer.injEq, Option.some.injEq, Addr.mk.injEq, and_true] at h1
    obtain ⟨rfl, rfl⟩ := h1
    exact h2
  have hseq : SeqGives Fence.wide 2 Try.prog 87 #[.pointer (some ⟨g, 0, none⟩)] encZ (fun ss => ss.Perm (intKeys D)) (Maps.size D) w :=
    AnyZI.keys_gives (ρ := Try.keysA_ren) { Try.keysA with } Fence.wide _ trivial rfl (by omega) g b es.length D w hblt hcell hown
  have cS : CallsIn Fence.wide 5 Try.prog 55 _ _ _ := AnyZI.sorted_in Try.sortedA Fence.wide 5 trivial trivial trivial trivial rfl (by omega) (sortsA _) (enters_of Try.func68 (by kernel_rfl) rfl) 87 #[.pointer (some ⟨g, 0, none⟩)] trivial (enters_of Try.func87 (by kernel_rfl) rfl) _ (Maps.size D) (by rw [hsize]; simp only [maxLen]; omega) (by rw [hsize]; omega) _ hseq
  refine (callsIn_wide.1 cS).mono ?_
  rintro e w' ⟨v, ss, rfl, hS, hrow, hnil, hbel⟩
  have hss : (ss.mergeSort fun x y => decide (x ≤ y)) = gkeys row := by
    rw [mergeSort_isort]
    exact isort_eq ((hS.trans hk1).symm) (gkeys_rises.imp fun h => Int.le_of_lt h)
  have hln : ss.length = (gkeys row).length := (hS.trans hk1).length_eq
  rw [hss, hln] at hrow
  have hg : Grow col w (paint col w c1) w' := Grow.new hbel c1
  rcases hrow.2 with ⟨hv, hz⟩ | ⟨g1, cap, cur, hv, hg1, hbk, r1, r2, r3, r4⟩
  · have h0 : gkeys row = [] := List.length_eq_zero_iff.1 hz
    refine ⟨_, none, 0, by rw [hv, h0]; rfl, hg, ?_⟩
    rw [h0]; exact Own.nil
  · refine ⟨_, some ⟨g1, 0, none⟩, cap, by rw [hv], hg, _, ⟨_, [], ⟨hrow.1, .inr ⟨g1, cap, cur, rfl, Nat.zero_le _, hbk, r1, r2, r3, ?_⟩⟩, rows_of_int _, rfl⟩, ?_⟩
    · exact r4
    · refine ⟨by simp [Value.ownBlock], fun x hx => ?_⟩
      simp only [Value.ownBlock, Option.toList_some, List.append_nil, List.mem_singleton] at hx
      subst hx
      unfold paint; rw [if_neg (by omega)]
end Go.Proofs.Ytgkofjmeopbkbaa
