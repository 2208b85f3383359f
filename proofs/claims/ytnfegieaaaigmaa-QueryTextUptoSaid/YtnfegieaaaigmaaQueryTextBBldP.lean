/-
  The library's Builder as the first part of a variable, and Join: their contracts, over this program.
-/
import Derived.Test.YtnfegieaaaigmaaQueryTextBBld
import Derived.Test.YtnfegieaaaigmaaQueryTextBThree
import Derived.Test.YtnfegieaaaigmaaProg
import Derived.Test.YtnfegieaaaigmaaShelf
import Derived.Shelf.RegionOpenPlain
import Derived.WalkKit
import Derived.Laws.Externs
import Derived.Lib.Strings
import Derived.Lib.Join
set_option linter.unusedVariables false
set_option maxRecDepth 100000
set_option maxHeartbeats 2000000
namespace Go.Proofs.Ytnfegieaaaigmaa
open Go Go.RowKit
theorem cc_used (b : Nat) (w : World) (h0 : w.cell? ⟨b, 0, none⟩ = some (.pointer (some ⟨b, 0, none⟩))) :
  Calls Try.prog 31 #[.pointer (some ⟨b, 0, none⟩)] w fun e w' => e = .returned (.tuple #[]) ∧ w' = w := by
 go_enter Try.func31, Try.ntmps31
 go_wp2
 rw [Lib.run_neq_ptr_same w _ Try.underlying44 (show Try.prog.info? 47 = some Try.t47 from rfl)]
 go_wp2
 go_end0
 exact ⟨rfl, rfl⟩
theorem cc_fresh {e n : Nat} (b : Nat) (w : World) (h0 : w.cell? ⟨b, 0, none⟩ = some (.pointer none)) (hsh : w.shape? b = some (e, n)) (hn : 0 < n) (hl : liesAt Try.prog Try.prog.depth e (n / Try.prog.cellsOf e) 0 47 1 = true) (hfz : w.frozen? ⟨b, 0, none⟩ = false) :
  Calls Try.prog 31 #[.pointer (some ⟨b, 0, none⟩)] w fun e w' => e = .returned (.tuple #[]) ∧ w' = w.setCell ⟨b, 0, none⟩ (.pointer (some ⟨b, 0, none⟩)) := by
 go_enter Try.func31, Try.ntmps31
 go_wp2
 rw [Lib.run_to_unsafe w ⟨b, 0, none⟩ Try.underlying44 Try.underlying71 (show Try.prog.info? 47 = some Try.t47 from rfl) (by decide) hsh hn]
 simp only [Result.andThen]
 rw [Oper.upon_value]
 go_wp2
 rw [run_callFunc_extern Try.func37 (by kernel_rfl) (by kernel_rfl) (by kernel_rfl) (e := Extern.AbiNoEscape.same) (by kernel_rfl)]
 rw [Lib.run_noEscape]
 simp only [Result.andThen]
 rw [Oper.upon_value]
 go_wp2
 rw [Lib.run_from_unsafe w ⟨b, 0, none⟩ Try.underlying71 Try.underlying44 (show Try.prog.info? 47 = some Try.t47 from rfl) hsh hl]
 simp only [Result.andThen]
 rw [Oper.upon_value]
 go_wp2
 go_end0
 exact ⟨rfl, rfl⟩
def m_bcc {α : Type} (p : (Bool × List Int) × α) : Option ((Bool × List Int) × α) := some ((true, p.1.2), p.2)
theorem dst2 {a b : Nat} (h : dstB [a, b] = true) : a ≠ 0 ∧ b ≠ 0 ∧ a ≠ b := by
 simp only [dstB, List.all_cons, List.all_nil, nodupB, Bool.and_eq_true, Bool.not_eq_true', Bool.and_true] at h
 refine ⟨fun e => ?_, fun e => ?_, fun e => ?_⟩
 ·subst e; simp at h
 ·subst e; simp at h
 ·subst e; simp at h
theorem bcc_emb (col : Col) (w0 : World) (qc0 : Nat) (qc1 : Nat) (hd : dstB [qc0, qc1] = true) (g0 : Nat) (p : ((Bool × (List Int)) × Int × Bool)) (a : Option Addr) (cap : Nat) (h0 : Own (Rep.int .u8) 5 qc1 col w0 a cap p.1.2) (hb0 : Box 49 qc0 col w0 g0 #[(.pointer (bif p.1.1 then some ⟨g0, 0, none⟩ else none)), (.slice a p.1.2.length cap), (.int .i64 p.2.1), (.bool p.2.2)]) (r : ((Bool × (List Int)) × Int × Bool)) (hm : m_bcc p = some r) :
  Calls Try.prog 31 #[(.pointer (some ⟨g0, 0, none⟩))] w0 (fun e w' => ∃ (col' : Col) (oa1 : Option Addr) (oc2 : Nat), e = .returned (.tuple #[]) ∧ KeepP (pS [qc0, qc1]) col w0 col' w' ∧ Own (Rep.int .u8) 5 qc1 col' w' oa1 oc2 r.1.2 ∧ Box 49 qc0 col' w' g0 #[(.pointer (bif r.1.1 then some ⟨g0, 0, none⟩ else none)), (.slice oa1 r.1.2.length oc2), (.int .i64 r.2.1), (.bool r.2.2)]) := by
 obtain ⟨n0, n1, n2⟩ := dst2 hd
 have hr : ((true, p.1.2), p.2) = r := Option.some.inj hm
 subst hr
 have hlt := (Array.getElem?_eq_some_iff.1 hb0.2).1
 cases hp : p.1.1 with
 | true =>
  rw [hp] at hb0
  refine (cc_used g0 w0 (by rw [Lib.cell_of_heap hb0.2]; rfl)).mono ?_
  rintro e w' ⟨rfl, rfl⟩
  exact ⟨col, a, cap, rfl, ⟨Nat.le_refl _, fun _ _ _ => rfl, fun _ _ _ => rfl, ⟨rfl, rfl, rfl⟩⟩, h0, hb0⟩
 | false =>
  rw [hp] at hb0
  have hb : w0.heap[g0]? = some (.cells #[(.pointer none), (.slice a p.1.2.length cap), (.int .i64 p.2.1), (.bool p.2.2)] 49 (0, 0)) := hb0.2
  refine (cc_fresh (e := 49) (n := 4) g0 w0 (by rw [Lib.cell_of_heap hb]; rfl) (by simp [World.shape?, hb]) (by decide) (by kernel_rfl) (Lib.frozen_of_heap hb 0)).mono ?_
  rintro e w' ⟨rfl, rfl⟩
  have hk : Keep qc0 col w0 col (w0.setCell ⟨g0, 0, none⟩ (.pointer (some ⟨g0, 0, none⟩))) := by
   refine ⟨by simp [World.setCell], fun _ _ => rfl, fun k hk hck => ?_⟩
   have hne : g0 ≠ k := fun e => hck (by rw [← e]; exact hb0.1)
   simp [World.setCell, Array.getElem?_modify, hne]
  refine ⟨col, a, cap, rfl, ⟨hk.size, fun _ _ _ => rfl, fun k hk1 hp => hk.block k hk1 fun e => ?_, ⟨rfl, rfl, rfl⟩⟩, h0.kp hk n0 (fun e => n2 e.symm), hb0.1, ?_⟩
  ·rw [e] at hp; simp [pS] at hp
  ·simp [World.setCell, Array.getElem?_modify, hb]
def m_bstr {α : Type} (p : (Bool × List Int) × α) : Option ByteArray := chk (∀ x ∈ p.1.2, 0 ≤ x ∧ x < 256) (some (bstr p.1.2))
def ubytes (xs : List Int) : List UInt8 := xs.map fun x => UInt8.ofNat x.toNat
theorem bstr_u (xs : List Int) : bstr xs = ⟨(ubytes xs).toArray⟩ := by
 have h : ∀ (xs : List Int) (r : ByteArray), xs.foldl (fun r n => r.push (UInt8.ofNat n.toNat)) r = ⟨r.data ++ (ubytes xs).toArray⟩ := by
  intro xs
  induction xs with
  | nil => intro r; simp [ubytes]
  | cons x xs ih =>
   intro r
   rw [List.foldl_cons, ih]
   simp [ubytes, ByteArray.push]
 rw [bstr, h]
 simp [ByteArray.empty, ByteArray.emptyWithCapacity]
 rfl
theorem cells_u {xs : List Int} (h : ∀ x ∈ xs, 0 ≤ x ∧ x < 256) : Lib.byteCells (ubytes xs) = xs.map (Value.int .u8) := by
 rw [Lib.byteCells, ubytes, List.map_map]
 refine List.map_congr_left fun x hx => ?_
 obtain ⟨h1, h2⟩ := h x hx
 simp only [Function.comp]
 congr 1
 rw [UInt8.toNat_ofNat']
 omega
theorem str_emb {col : Col} {w : World} {g e cb cr cap : Nat} {cs : Array Value} {a : Option Addr} {xs : List Int} (hB : Box e cb col w g cs) (hc1 : cs[1]? = some (.slice a xs.length cap)) (hO : Own (Rep.int .u8) 5 cr col w a cap xs) (hw : ∀ x ∈ xs, 0 ≤ x ∧ x < 256) :
  Calls Try.prog 19 #[.pointer (some ⟨g, 0, none⟩)] w fun e' w' => e' = .returned (.string (bstr xs)) ∧ KeepP (p2 cb cr) col w col w' := by
 obtain ⟨bs, ⟨fl, b2, h3, h4, rfl⟩, hm⟩ := hO
 obtain ⟨rfl, rfl⟩ := rows_ints_of h4
 have hbk := hB.2
 have mixed : Try.prog.follows Departure.mixedOrders = true := by kernel_rfl
 have hUS0 : ∀ (W : World) (q : Option Addr), (Builtin.unsafeString_ #[65, 3] 9 #[.pointer q, .int .i64 0]).run Try.prog W = .ok (.string .empty) W := fun W q => Lib.run_unsafeString_none W _ _ _ q
 have c0 : w.cell? ⟨g, 1, none⟩ = some (.slice a xs.length cap) := by rw [Lib.cell_of_heap hbk]; exact hc1
 have c1 : w.drew.cell? ⟨g, 1, none⟩ = some (.slice a xs.length cap) := c0
 have hz1 : (Rep.int IntKind.u8).sz = 1 := rfl
 have kd : KeepP (p2 cb cr) col w col w.drew := ⟨Nat.le_refl _, fun _ _ _ => rfl, fun _ _ _ => rfl, ⟨rfl, rfl, rfl⟩⟩
 rcases h3.2 with ⟨hv, hn⟩ | ⟨g2, cp, cur, hv, hbase, hh, hle, hmx, hcs, ht⟩
 ·simp only [Value.slice.injEq] at hv
  obtain ⟨rfl, _, rfl⟩ := hv
  obtain rfl := List.length_eq_zero_iff.1 hn
  have hSD : (Builtin.unsafeSliceData_ #[45] 65 #[.slice none 0 0]).run Try.prog w.drew = .ok (.pointer none) w.drew := rfl
  go_enter Try.func19, Try.ntmps19
  go_wp2
  go_region_o
  all_goals (go_wp2; go_ret; exact ⟨rfl, kd⟩)
 ·simp only [Value.slice.injEq] at hv
  obtain ⟨rfl, _, rfl⟩ := hv
  rw [hz1, Nat.mul_one] at hcs ht
  have hsh : w.drew.shape? g2 = some (5, cur.size) := by
   have hg' : w.drew.heap[g2]? = some (.cells cur 5 (0, 0)) := hh
   simp [World.shape?, hg']
  by_cases hx0 : xs = []
  ·subst hx0
   by_cases hc0 : cap = 0
   ·subst hc0
    have hSD : (Builtin.unsafeSliceData_ #[45] 65 #[.slice (some ⟨g2, 0, none⟩) 0 0]).run Try.prog w.drew = .ok (.pointer (some ⟨w.drew.heap.size, 0, none⟩)) (w.drew.alloc (.view ⟨g2, 0, none⟩ 5)) :=
     Lib.run_unsafeSliceData_zero w.drew _ _ 5 Try.underlying65 ⟨g2, 0, none⟩ 0 (5, cur.size) hsh
    have hlt : g < w.heap.size := (Array.getElem?_eq_some_iff.1 hbk).1
    have c2 : (w.drew.alloc (.view ⟨g2, 0, none⟩ 5)).cell? ⟨g, 1, none⟩ = some (.slice (some ⟨g2, 0, none⟩) 0 0) := by
     have : (w.drew.alloc (.view ⟨g2, 0, none⟩ 5)).heap[g]? = _ := (Lib.alloc_old w.drew _ g hlt).trans hbk
     rw [Lib.cell_of_heap this]; exact hc1
    have c3 : (w.alloc (.view ⟨g2, 0, none⟩ 5)).drew.cell? ⟨g, 1, none⟩ = some (.slice (some ⟨g2, 0, none⟩) 0 0) := c2
    have ka : KeepP (p2 cb cr) col w col (w.drew.alloc (.view ⟨g2, 0, none⟩ 5)) := ⟨by rw [World.size_alloc]; exact Nat.le_succ _, fun _ _ _ => rfl, fun k hk _ => Lib.alloc_old w.drew _ k hk, ⟨rfl, rfl, rfl⟩⟩
    go_enter Try.func19, Try.ntmps19
    go_wp2
    go_region_o
    all_goals (go_wp2; go_ret; exact ⟨rfl, ka⟩)
   ·have hSD : (Builtin.unsafeSliceData_ #[45] 65 #[.slice (some ⟨g2, 0, none⟩) 0 cap]).run Try.prog w.drew = .ok (.pointer (some ⟨g2, 0, none⟩)) w.drew := Lib.run_unsafeSliceData_row _ _ _ _ _ _ hc0
    clear hc0
    go_enter Try.func19, Try.ntmps19
    go_wp2
    go_region_o
    all_goals (go_wp2; go_ret; exact ⟨rfl, kd⟩)
  ·have hpos : 0 < xs.length := List.length_pos_iff.2 hx0
   have hu := cells_u hw
   have hul : (ubytes xs).length = xs.length := by rw [ubytes, List.length_map]
   have hSD : (Builtin.unsafeSliceData_ #[45] 65 #[.slice (some ⟨g2, 0, none⟩) xs.length cap]).run Try.prog w.drew = .ok (.pointer (some ⟨g2, 0, none⟩)) w.drew :=
    Lib.run_unsafeSliceData_row _ _ _ _ _ _ (by omega)
   have hUS : (Builtin.unsafeString_ #[65, 3] 9 #[.pointer (some ⟨g2, 0, none⟩), .int .i64 xs.length]).run Try.prog w.drew = .ok (.string (bstr xs)) (w.drew.freeze ⟨g2, 0, none⟩ xs.length) := by
    rw [bstr_u]
    have := Lib.run_unsafeString_row (P := Try.prog) w.drew 65 3 9 5 Try.underlying65 (by kernel_rfl) g2 cur.size hsh (ubytes xs) (fun h => hx0 (List.eq_nil_of_length_eq_zero (by rw [← hul, h]; rfl))) (by omega) (by simp only [maxLen] at hmx; omega) ?_
    ·rw [hul] at this; exact this
    ·intro j x hx
     have := h3.cells (g := g2) rfl j (.int .u8 x.toNat) (by rw [← hu]; simp [Lib.byteCells, hx])
     exact this
   have kf : KeepP (p2 cb cr) col w col (w.drew.freeze ⟨g2, 0, none⟩ xs.length) := by
    have hg2 : col g2 = cr := hm.2 g2 (by simp [Value.ownBlock])
    have hb := Lib.below_freeze (Below.drew (Below.refl 0 w)) (p := ⟨g2, 0, none⟩) (Nat.zero_le _) xs.length
    refine ⟨hb.size, fun _ _ _ => rfl, fun k hk hp => ?_, ⟨hb.1, hb.2, hb.3⟩⟩
    have hne : g2 ≠ k := fun e => by
     subst e
     rw [hg2] at hp
     simp [p2] at hp
    unfold World.freeze
    split
    ·rfl
    ·simp only [Array.getElem?_modify]
     rw [if_neg hne]; rfl
   go_enter Try.func19, Try.ntmps19
   go_wp2
   go_region_o
   all_goals (go_wp2; go_ret; exact ⟨rfl, kf⟩)
theorem bstr_emb (col : Col) (w0 : World) (qc0 : Nat) (qc1 : Nat) (hd : dstB [qc0, qc1] = true) (g0 : Nat) (p : ((Bool × (List Int)) × Int × Bool)) (a : Option Addr) (cap : Nat) (h0 : Own (Rep.int .u8) 5 qc1 col w0 a cap p.1.2) (hb0 : Box 49 qc0 col w0 g0 #[(.pointer (bif p.1.1 then some ⟨g0, 0, none⟩ else none)), (.slice a p.1.2.length cap), (.int .i64 p.2.1), (.bool p.2.2)]) (r : ByteArray) (hm : m_bstr p = some r) :
  Calls Try.prog 19 #[(.pointer (some ⟨g0, 0, none⟩))] w0 (fun e w' => ∃ (col' : Col), e = .returned ((.string r)) ∧ KeepP (pS [qc0, qc1]) col w0 col' w') := by
 obtain ⟨hc, hr⟩ := chk_some hm
 have hr : bstr p.1.2 = r := Option.some.inj hr
 subst hr
 refine (str_emb hb0 rfl h0 hc).mono ?_
 rintro e w' ⟨rfl, hk⟩
 have hp : ∀ k, p2 qc0 qc1 k = pS [qc0, qc1] k := fun k => by simp only [pS, p2, List.any_cons, List.any_nil, Bool.or_false]
 exact ⟨col, rfl, hk.size, fun k h1 h2 => hk.tint k h1 ((hp _).trans h2), fun k h1 h2 => hk.block k h1 ((hp _).trans h2), hk.still⟩
def jtext (xs : List ByteArray) (sep : ByteArray) : ByteArray := ⟨(Lib.join (xs.map (·.data.toList)) sep.data.toList).toArray⟩
def m_join (xs : List ByteArray) (sep : ByteArray) : Option ByteArray := chk ((Lib.join (xs.map (·.data.toList)) sep.data.toList).length ≤ 140737488355328 ∧ xs.length ≤ 140737488355328) (some (jtext xs sep))
theorem rows_str_of {col : Col} {w : World} : ∀ {xs : List ByteArray} {fl : List Value} {bs : List Nat}, Rows Rep.str col w fl xs bs → fl = xs.map Value.string
 | [], _, _, h => h.1
 | x :: xs, _, _, ⟨cs, fl', b1, b2, h, hb, h1, h2⟩ => by
  have h1 : cs = [.string x] ∧ b1 = [] := h1
  rw [h, h1.1, rows_str_of h2]; rfl
theorem join_sl (col : Col) (w0 : World) (a0 : Option Addr) (cap0 : Nat) (xs : (List ByteArray)) (sep : ByteArray) (h0 : Sl Rep.str col w0 a0 cap0 xs) (r : ByteArray) (hm : m_join xs sep = some r) :
  Calls Try.prog 26 #[(.slice a0 xs.length cap0), (.string sep)] w0 (fun e w' => e = .returned ((.string r)) ∧ Below w0.heap.size w0 w') := by
 obtain ⟨hc, hr⟩ := chk_some hm
 have hr : jtext xs sep = r := Option.some.inj hr
 subst hr
 rcases h0.2 with rfl | ⟨b, off, fl, rfl, hb, hrw, hx⟩
 ·refine (Try.strings_Join_none a0 cap0 sep w0).mono ?_
  rintro e w' ⟨rfl, rfl⟩
  exact ⟨rfl, Below.refl _ _⟩
 ·by_cases hn : xs = []
  ·subst hn
   refine (Try.strings_Join_none _ cap0 sep w0).mono ?_
   rintro e w' ⟨rfl, rfl⟩
   exact ⟨rfl, Below.refl _ _⟩
  ·have hfl := rows_str_of hrw
   subst hfl
   have hcells : ∀ (j : Nat) x, xs[j]? = some x → w0.cell? ⟨b, off + j, none⟩ = some (.string x) := fun j x hj => hx j _ (by rw [List.getElem?_map, hj]; rfl)
   obtain ⟨x, l, rfl⟩ := List.exists_cons_of_ne_nil hn
   exact Try.strings_Join b off cap0 (x :: l) sep w0 hcells (World.block_lt_of_cell? w0 _ (hcells 0 x rfl)) hc.2 h0.1.2 hc.1
end Go.Proofs.Ytnfegieaaaigmaa
