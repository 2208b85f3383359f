/-
  What the reader of words calls of the library: their contracts, over this program; and the fault that it hands back.
-/
import Derived.Test.YtnfegieaaaigmaaGreatDoorLexApartBBld
import Derived.Test.YtnfegieaaaigmaaGreatDoorLexApartBErr
import Derived.Test.YtnfegieaaaigmaaGreatDoorLexApartBThree
import Derived.Test.YtnfegieaaaigmaaGreatDoorProg
import Derived.Test.YtnfegieaaaigmaaGreatDoorShelf
import Derived.Shelf.RegionOpenPlain
import Derived.WalkKit
import Derived.Laws.Externs
import Derived.Lib.Strings
import Derived.Lib.Index
import Derived.Lib.Strings
set_option linter.unusedVariables false
set_option maxRecDepth 100000
set_option maxHeartbeats 2000000
namespace Go.Proofs.YtnfegieaaaigmaaGreatDoor
open Go Go.RowKit
theorem cc_used (b : Nat) (w : World) (h0 : w.cell? ⟨b, 0, none⟩ = some (.pointer (some ⟨b, 0, none⟩))) :
  Calls Tryz.prog 108 #[.pointer (some ⟨b, 0, none⟩)] w fun e w' => e = .returned (.tuple #[]) ∧ w' = w := by
 go_enter Tryz.func108, Tryz.ntmps108
 go_wp2
 rw [Lib.run_neq_ptr_same w _ Tryz.underlying161 (show Tryz.prog.info? 163 = some Tryz.t163 from rfl)]
 go_wp2
 go_end0
 exact ⟨rfl, rfl⟩
theorem cc_fresh {e n : Nat} (b : Nat) (w : World) (h0 : w.cell? ⟨b, 0, none⟩ = some (.pointer none)) (hsh : w.shape? b = some (e, n)) (hn : 0 < n) (hl : liesAt Tryz.prog Tryz.prog.depth e (n / Tryz.prog.cellsOf e) 0 163 1 = true) (hfz : w.frozen? ⟨b, 0, none⟩ = false) :
  Calls Tryz.prog 108 #[.pointer (some ⟨b, 0, none⟩)] w fun e w' => e = .returned (.tuple #[]) ∧ w' = w.setCell ⟨b, 0, none⟩ (.pointer (some ⟨b, 0, none⟩)) := by
 go_enter Tryz.func108, Tryz.ntmps108
 go_wp2
 rw [Lib.run_to_unsafe w ⟨b, 0, none⟩ Tryz.underlying161 Tryz.underlying100 (show Tryz.prog.info? 163 = some Tryz.t163 from rfl) (by decide) hsh hn]
 simp only [Result.andThen]
 rw [Oper.upon_value]
 go_wp2
 rw [run_callFunc_extern Tryz.func121 (by kernel_rfl) (by kernel_rfl) (by kernel_rfl) (e := Extern.AbiNoEscape.same) (by kernel_rfl)]
 rw [Lib.run_noEscape]
 simp only [Result.andThen]
 rw [Oper.upon_value]
 go_wp2
 rw [Lib.run_from_unsafe w ⟨b, 0, none⟩ Tryz.underlying100 Tryz.underlying161 (show Tryz.prog.info? 163 = some Tryz.t163 from rfl) hsh hl]
 simp only [Result.andThen]
 rw [Oper.upon_value]
 go_wp2
 go_end0
 exact ⟨rfl, rfl⟩
def m_bcc1 (p : Bool × List Int) : Option (Bool × List Int) := some (true, p.2)
theorem dst2 {a b : Nat} (h : dstB [a, b] = true) : a ≠ 0 ∧ b ≠ 0 ∧ a ≠ b := by
 simp only [dstB, List.all_cons, List.all_nil, nodupB, Bool.and_eq_true, Bool.not_eq_true', Bool.and_true] at h
 refine ⟨fun e => ?_, fun e => ?_, fun e => ?_⟩
 ·subst e; simp at h
 ·subst e; simp at h
 ·subst e; simp at h
theorem bcc1_emb (col : Col) (w0 : World) (qc0 : Nat) (qc0_1 : Nat) (hd : dstB [qc0, qc0_1] = true) (g0 : Nat) (p : (Bool × (List Int))) (a : Option Addr) (cap : Nat) (h0 : Own (Rep.int .u8) 5 qc0_1 col w0 a cap p.2) (hb0 : Box 163 qc0 col w0 g0 #[(.pointer (bif p.1 then some ⟨g0, 0, none⟩ else none)), (.slice a p.2.length cap)]) (r : (Bool × (List Int))) (hm : m_bcc1 p = some r) :
  Calls Tryz.prog 108 #[(.pointer (some ⟨g0, 0, none⟩))] w0 (fun e w' => ∃ (col' : Col) (oa1 : Option Addr) (oc2 : Nat), e = .returned (.tuple #[]) ∧ KeepP (pS [qc0, qc0_1]) col w0 col' w' ∧ Own (Rep.int .u8) 5 qc0_1 col' w' oa1 oc2 r.2 ∧ Box 163 qc0 col' w' g0 #[(.pointer (bif r.1 then some ⟨g0, 0, none⟩ else none)), (.slice oa1 r.2.length oc2)]) := by
 obtain ⟨n0, n1, n2⟩ := dst2 hd
 have hr : (true, p.2) = r := Option.some.inj hm
 subst hr
 have hlt := (Array.getElem?_eq_some_iff.1 hb0.2).1
 cases hp : p.1 with
 | true =>
  rw [hp] at hb0
  refine (cc_used g0 w0 (by rw [Lib.cell_of_heap hb0.2]; rfl)).mono ?_
  rintro e w' ⟨rfl, rfl⟩
  exact ⟨col, a, cap, rfl, ⟨Nat.le_refl _, fun _ _ _ => rfl, fun _ _ _ => rfl, ⟨rfl, rfl, rfl⟩⟩, h0, hb0⟩
 | false =>
  rw [hp] at hb0
  have hb : w0.heap[g0]? = some (.cells #[(.pointer none), (.slice a p.2.length cap)] 163 (0, 0)) := hb0.2
  refine (cc_fresh (e := 163) (n := 2) g0 w0 (by rw [Lib.cell_of_heap hb]; rfl) (by simp [World.shape?, hb]) (by decide) (by kernel_rfl) (Lib.frozen_of_heap hb 0)).mono ?_
  rintro e w' ⟨rfl, rfl⟩
  have hk : Keep qc0 col w0 col (w0.setCell ⟨g0, 0, none⟩ (.pointer (some ⟨g0, 0, none⟩))) := by
   refine ⟨by simp [World.setCell], fun _ _ => rfl, fun k hk hck => ?_⟩
   have hne : g0 ≠ k := fun e => hck (by rw [← e]; exact hb0.1)
   simp [World.setCell, Array.getElem?_modify, hne]
  refine ⟨col, a, cap, rfl, ⟨hk.size, fun _ _ _ => rfl, fun k hk1 hp => hk.block k hk1 fun e => ?_, ⟨rfl, rfl, rfl⟩⟩, h0.kp hk n0 (fun e => n2 e.symm), hb0.1, ?_⟩
  ·rw [e] at hp; simp [pS] at hp
  ·simp [World.setCell, Array.getElem?_modify, hb]
def m_bstr1 (p : Bool × List Int) : Option ByteArray := chk (∀ x ∈ p.2, 0 ≤ x ∧ x < 256) (some (bstr p.2))
def ubytes (xs : List Int) : List UInt8 := xs.map fun x => UInt8.ofNat x.toNat
theorem bstr_u (xs : List Int) : bstr xs = ⟨(ubytes xs).toArray⟩ := by
 have h : ∀ (xs : List Int) (r : ByteArray), xs.foldl (fun r n => r.push (UInt8.ofNat n.toNat)) r = ⟨r.data ++ (ubytes xs).toArray⟩ := by
  intro xs
  induction xs with
  | nil => intro r; simp [ubytes]
  | cons x xs ih =>
   intro r
   rw [List.foldl_cons, ih]
   simp [ubytes, ByteArray.push]
 rw [bstr, h]
 simp [ByteArray.empty, ByteArray.emptyWithCapacity]
 rfl
theorem cells_u {xs : List Int} (h : ∀ x ∈ xs, 0 ≤ x ∧ x < 256) : Lib.byteCells (ubytes xs) = xs.map (Value.int .u8) := by
 rw [Lib.byteCells, ubytes, List.map_map]
 refine List.map_congr_left fun x hx => ?_
 obtain ⟨h1, h2⟩ := h x hx
 simp only [Function.comp]
 congr 1
 rw [UInt8.toNat_ofNat']
 omega
theorem str_emb {col : Col} {w : World} {g e cb cr cap : Nat} {cs : Array Value} {a : Option Addr} {xs : List Int} (hB : Box e cb col w g cs) (hc1 : cs[1]? = some (.slice a xs.length cap)) (hO : Own (Rep.int .u8) 5 cr col w a cap xs) (hw : ∀ x ∈ xs, 0 ≤ x ∧ x < 256) :
  Calls Tryz.prog 92 #[.pointer (some ⟨g, 0, none⟩)] w fun e' w' => e' = .returned (.string (bstr xs)) ∧ KeepP (p2 cb cr) col w col w' := by
 obtain ⟨bs, ⟨fl, b2, h3, h4, rfl⟩, hm⟩ := hO
 obtain ⟨rfl, rfl⟩ := rows_ints_of h4
 have hbk := hB.2
 have mixed : Tryz.prog.follows Departure.mixedOrders = true := by kernel_rfl
 have hUS0 : ∀ (W : World) (q : Option Addr), (Builtin.unsafeString_ #[176, 3] 9 #[.pointer q, .int .i64 0]).run Tryz.prog W = .ok (.string .empty) W := fun W q => Lib.run_unsafeString_none W _ _ _ q
 have c0 : w.cell? ⟨g, 1, none⟩ = some (.slice a xs.length cap) := by rw [Lib.cell_of_heap hbk]; exact hc1
 have c1 : w.drew.cell? ⟨g, 1, none⟩ = some (.slice a xs.length cap) := c0
 have hz1 : (Rep.int IntKind.u8).sz = 1 := rfl
 have kd : KeepP (p2 cb cr) col w col w.drew := ⟨Nat.le_refl _, fun _ _ _ => rfl, fun _ _ _ => rfl, ⟨rfl, rfl, rfl⟩⟩
 rcases h3.2 with ⟨hv, hn⟩ | ⟨g2, cp, cur, hv, hbase, hh, hle, hmx, hcs, ht⟩
 ·simp only [Value.slice.injEq] at hv
  obtain ⟨rfl, _, rfl⟩ := hv
  obtain rfl := List.length_eq_zero_iff.1 hn
  have hSD : (Builtin.unsafeSliceData_ #[144] 176 #[.slice none 0 0]).run Tryz.prog w.drew = .ok (.pointer none) w.drew := rfl
  go_enter Tryz.func92, Tryz.ntmps92
  go_wp2
  go_region_o
  all_goals (go_wp2; go_ret; exact ⟨rfl, kd⟩)
 ·simp only [Value.slice.injEq] at hv
  obtain ⟨rfl, _, rfl⟩ := hv
  rw [hz1, Nat.mul_one] at hcs ht
  have hsh : w.drew.shape? g2 = some (5, cur.size) := by
   have hg' : w.drew.heap[g2]? = some (.cells cur 5 (0, 0)) := hh
   simp [World.shape?, hg']
  by_cases hx0 : xs = []
  ·subst hx0
   by_cases hc0 : cap = 0
   ·subst hc0
    have hSD : (Builtin.unsafeSliceData_ #[144] 176 #[.slice (some ⟨g2, 0, none⟩) 0 0]).run Tryz.prog w.drew = .ok (.pointer (some ⟨w.drew.heap.size, 0, none⟩)) (w.drew.alloc (.view ⟨g2, 0, none⟩ 5)) :=
     Lib.run_unsafeSliceData_zero w.drew _ _ 5 Tryz.underlying176 ⟨g2, 0, none⟩ 0 (5, cur.size) hsh
    have hlt : g < w.heap.size := (Array.getElem?_eq_some_iff.1 hbk).1
    have c2 : (w.drew.alloc (.view ⟨g2, 0, none⟩ 5)).cell? ⟨g, 1, none⟩ = some (.slice (some ⟨g2, 0, none⟩) 0 0) := by
     have : (w.drew.alloc (.view ⟨g2, 0, none⟩ 5)).heap[g]? = _ := (Lib.alloc_old w.drew _ g hlt).trans hbk
     rw [Lib.cell_of_heap this]; exact hc1
    have c3 : (w.alloc (.view ⟨g2, 0, none⟩ 5)).drew.cell? ⟨g, 1, none⟩ = some (.slice (some ⟨g2, 0, none⟩) 0 0) := c2
    have ka : KeepP (p2 cb cr) col w col (w.drew.alloc (.view ⟨g2, 0, none⟩ 5)) := ⟨by rw [World.size_alloc]; exact Nat.le_succ _, fun _ _ _ => rfl, fun k hk _ => Lib.alloc_old w.drew _ k hk, ⟨rfl, rfl, rfl⟩⟩
    go_enter Tryz.func92, Tryz.ntmps92
    go_wp2
    go_region_o
    all_goals (go_wp2; go_ret; exact ⟨rfl, ka⟩)
   ·have hSD : (Builtin.unsafeSliceData_ #[144] 176 #[.slice (some ⟨g2, 0, none⟩) 0 cap]).run Tryz.prog w.drew = .ok (.pointer (some ⟨g2, 0, none⟩)) w.drew := Lib.run_unsafeSliceData_row _ _ _ _ _ _ hc0
    clear hc0
    go_enter Tryz.func92, Tryz.ntmps92
    go_wp2
    go_region_o
    all_goals (go_wp2; go_ret; exact ⟨rfl, kd⟩)
  ·have hpos : 0 < xs.length := List.length_pos_iff.2 hx0
   have hu := cells_u hw
   have hul : (ubytes xs).length = xs.length := by rw [ubytes, List.length_map]
   have hSD : (Builtin.unsafeSliceData_ #[144] 176 #[.slice (some ⟨g2, 0, none⟩) xs.length cap]).run Tryz.prog w.drew = .ok (.pointer (some ⟨g2, 0, none⟩)) w.drew :=
    Lib.run_unsafeSliceData_row _ _ _ _ _ _ (by omega)
   have hUS : (Builtin.unsafeString_ #[176, 3] 9 #[.pointer (some ⟨g2, 0, none⟩), .int .i64 xs.length]).run Tryz.prog w.drew = .ok (.string (bstr xs)) (w.drew.freeze ⟨g2, 0, none⟩ xs.length) := by
    rw [bstr_u]
    have := Lib.run_unsafeString_row (P := Tryz.prog) w.drew 176 3 9 5 Tryz.underlying176 (by kernel_rfl) g2 cur.size hsh (ubytes xs) (fun h => hx0 (List.eq_nil_of_length_eq_zero (by rw [← hul, h]; rfl))) (by omega) (by simp only [maxLen] at hmx; omega) ?_
    ·rw [hul] at this; exact this
    ·intro j x hx
     have := h3.cells (g := g2) rfl j (.int .u8 x.toNat) (by rw [← hu]; simp [Lib.byteCells, hx])
     exact this
   have kf : KeepP (p2 cb cr) col w col (w.drew.freeze ⟨g2, 0, none⟩ xs.length) := by
    have hg2 : col g2 = cr := hm.2 g2 (by simp [Value.ownBlock])
    have hb := Lib.below_freeze (Below.drew (Below.refl 0 w)) (p := ⟨g2, 0, none⟩) (Nat.zero_le _) xs.length
    refine ⟨hb.size, fun _ _ _ => rfl, fun k hk hp => ?_, ⟨hb.1, hb.2, hb.3⟩⟩
    have hne : g2 ≠ k := fun e => by
     subst e
     rw [hg2] at hp
     simp [p2] at hp
    unfold World.freeze
    split
    ·rfl
    ·simp only [Array.getElem?_modify]
     rw [if_neg hne]; rfl
   go_enter Tryz.func92, Tryz.ntmps92
   go_wp2
   go_region_o
   all_goals (go_wp2; go_ret; exact ⟨rfl, kf⟩)
theorem bstr1_emb (col : Col) (w0 : World) (qc0 : Nat) (qc1 : Nat) (hd : dstB [qc0, qc1] = true) (g0 : Nat) (p : (Bool × (List Int))) (a : Option Addr) (cap : Nat) (h0 : Own (Rep.int .u8) 5 qc1 col w0 a cap p.2) (hb0 : Box 163 qc0 col w0 g0 #[(.pointer (bif p.1 then some ⟨g0, 0, none⟩ else none)), (.slice a p.2.length cap)]) (r : ByteArray) (hm : m_bstr1 p = some r) :
  Calls Tryz.prog 92 #[(.pointer (some ⟨g0, 0, none⟩))] w0 (fun e w' => ∃ (col' : Col), e = .returned ((.string r)) ∧ KeepP (pS [qc0, qc1]) col w0 col' w') := by
 obtain ⟨hc, hr⟩ := chk_some hm
 have hr : bstr p.2 = r := Option.some.inj hr
 subst hr
 refine (str_emb hb0 rfl h0 hc).mono ?_
 rintro e w' ⟨rfl, hk⟩
 have hp : ∀ k, p2 qc0 qc1 k = pS [qc0, qc1] k := fun k => by simp only [pS, p2, List.any_cons, List.any_nil, Bool.or_false]
 exact ⟨col, rfl, hk.size, fun k h1 h2 => hk.tint k h1 ((hp _).trans h2), fun k h1 h2 => hk.block k h1 ((hp _).trans h2), hk.still⟩
def m_idxb (s : ByteArray) (c : Int) : Option Int := some (Lib.indexByte s.data.toList c.toNat.toUInt8)
theorem idxb_c (col : Col) (w0 : World) (s : ByteArray) (c : Int) (r : Int) (hm : m_idxb s c = some r) :
  Calls Tryz.prog 39 #[(.string s), (.int .u8 c)] w0 (fun e w' => e = .returned ((.int .i64 r)) ∧ Below w0.heap.size w0 w') := by
 have hr : Lib.indexByte s.data.toList c.toNat.toUInt8 = r := Option.some.inj hm
 subst hr
 refine (Tryz.strings_IndexByte s c w0).mono ?_
 rintro e w' ⟨rfl, rfl⟩
 exact ⟨rfl, Below.refl _ _⟩
def m_pref (s p : ByteArray) : Option Bool := some (Lib.hasPrefix s.data.toList p.data.toList)
theorem pref_c (col : Col) (w0 : World) (s p : ByteArray) (r : Bool) (hm : m_pref s p = some r) :
  Calls Tryz.prog 89 #[(.string s), (.string p)] w0 (fun e w' => e = .returned ((.bool r)) ∧ Below w0.heap.size w0 w') := by
 have hr : Lib.hasPrefix s.data.toList p.data.toList = r := Option.some.inj hm
 subst hr
 refine (Tryz.strings_HasPrefix s p w0).mono ?_
 rintro e w' ⟨rfl, rfl⟩
 exact ⟨rfl, Below.refl _ _⟩
def m_idx (s p : ByteArray) : Option Int := chk (s.size < 4294967281) (some (Lib.index s.data.toList p.data.toList))
theorem idx_c {v : Value} (col : Col) (w0 : World) (s p : ByteArray) (hgl : Gl v col w0) (r : Int) (hm : m_idx s p = some r) :
  Calls Tryz.prog 90 #[(.string s), (.string p)] w0 (fun e w' => e = .returned ((.int .i64 r)) ∧ Below w0.heap.size w0 w') := by
 obtain ⟨h1, h2⟩ := chk_some hm
 have hr : Lib.index s.data.toList p.data.toList = r := Option.some.inj h2
 subst hr
 obtain ⟨k, hk⟩ := hgl.len
 refine (Tryz.strings_Index s p k w0 h1 hk).mono ?_
 rintro e w' ⟨rfl, rfl⟩
 exact ⟨rfl, Below.refl _ _⟩
def m_triml (s c : ByteArray) : Option ByteArray := if c = ⟨#[48]⟩ then some ⟨(Lib.trimLeftB s.data.toList 48).toArray⟩ else none
theorem triml_c (col : Col) (w0 : World) (s c : ByteArray) (r : ByteArray) (hm : m_triml s c = some r) :
  Calls Tryz.prog 91 #[(.string s), (.string c)] w0 (fun e w' => e = .returned ((.string r)) ∧ Below w0.heap.size w0 w') := by
 unfold m_triml at hm
 split at hm
 ·rename_i hc
  subst hc
  have hr := Option.some.inj hm
  subst hr
  refine (Tryz.strings_TrimLeft_one s 48 (by decide) w0).mono ?_
  rintro e w' ⟨rfl, rfl⟩
  exact ⟨rfl, Below.refl _ _⟩
 ·cases hm
def m_fail (code : Int) (word : ByteArray) (t : Int × ByteArray × Int × Int) : Option ((Int × ByteArray × Int × Int) × Option (Int × Int × Int × ByteArray)) := some ((0, ⟨#[]⟩, 0, 0), some (code, t.2.2.1, t.2.2.2, word))
theorem fail_emb (col : Col) (w0 : World) (qc2 : Nat) (hqqc2 : qc2 ≠ 0) (code : Int) (word : ByteArray) (g2 : Nat) (t : (Int × ByteArray × Int × Int)) (hb2 : Box 38 qc2 col w0 g2 #[(.int .i8 t.1), (.string t.2.1), (.int .i64 t.2.2.1), (.int .i64 t.2.2.2)]) (r : ((Int × ByteArray × Int × Int) × (Option (Int × Int × Int × ByteArray)))) (hm : m_fail code word t = some r) :
  Calls Tryz.prog 66 #[(.int .i64 code), (.string word), (.pointer (some ⟨g2, 0, none⟩))] w0 (fun e w' => ∃ (col' : Col) (rv1 : Value), e = .returned (.tuple #[(.agg #[(.int .i8 r.1.1), (.string r.1.2.1), (.int .i64 r.1.2.2.1), (.int .i64 r.1.2.2.2)]), rv1]) ∧ Grow col w0 col' w' ∧ Rd (Rep.err 57 26 (Rep.pair (Rep.int .i64) (Rep.pair (Rep.int .i64) (Rep.pair (Rep.int .i64) Rep.str)))) col' w' [rv1] r.2) := by
 have hr := Option.some.inj hm
 subst hr
 have hlt := (Array.getElem?_eq_some_iff.1 hb2.2).1
 have c2 : w0.cell? ⟨g2, 2, none⟩ = some (.int .i64 t.2.2.1) := by rw [Lib.cell_of_heap hb2.2]; rfl
 have c3 : w0.cell? ⟨g2, 3, none⟩ = some (.int .i64 t.2.2.2) := by rw [Lib.cell_of_heap hb2.2]; rfl
 have mixed : Tryz.prog.follows Departure.mixedOrders = true := by kernel_rfl
 go_enter Tryz.func66, Tryz.ntmps66
 go_wp2
 go_region_o
 all_goals (
  go_wp2
  have hsz1 : (w0.alloc (.cells #[.int .i8 0, .string ⟨#[]⟩, .int .i64 0, .int .i64 0] 38)).heap.size = w0.heap.size + 1 := by simp
  have hb' : (((w0.alloc (.cells #[.int .i8 0, .string ⟨#[]⟩, .int .i64 0, .int .i64 0] 38)).alloc (.cells #[.int .i64 code, .int .i64 t.2.2.1, .int .i64 t.2.2.2, .string word] 26)).drew).heap[w0.heap.size]? = some (.cells #[.int .i8 0, .string ⟨#[]⟩, .int .i64 0, .int .i64 0] 38 (0, 0)) := by
   show ((w0.alloc _).alloc _).heap[w0.heap.size]? = _
   rw [heap_alloc_old _ _ (by rw [hsz1]; omega), heap_alloc_new]
  have l0 := run_loadCells_list (P := Tryz.prog) (w := ((w0.alloc (.cells #[.int .i8 0, .string ⟨#[]⟩, .int .i64 0, .int .i64 0] 38)).alloc (.cells #[.int .i64 code, .int .i64 t.2.2.1, .int .i64 t.2.2.2, .string word] 26)).drew) ⟨w0.heap.size, 0, none⟩ [.int .i8 0, .string ⟨#[]⟩, .int .i64 0, .int .i64 0] (fun j v hj => by
   rw [add_mk, Nat.zero_add, Lib.cell_of_heap hb']
   simpa using hj)
  change Sem.run Tryz.prog (loadCells _ 4) _ = _ at l0
  refine ⟨rfl, .tuple #[.agg #[.int .i8 0, .string ⟨#[]⟩, .int .i64 0, .int .i64 0], .iface 57 (.pointer (some ⟨w0.heap.size + 1, 0, none⟩))], ?_, paint col w0 0, _, rfl, Grow.new ((((Below.refl _ _).alloc (Nat.le_refl _) _).alloc (by rw [hsz1]; omega) _).drew) 0, FzB.err (b := w0.heap.size + 1) (cs := [.int .i64 code, .int .i64 t.2.2.1, .int .i64 t.2.2.2, .string word]) ⟨by simp only [paint]; rw [if_neg (by omega)], by show ((w0.alloc _).alloc _).heap[w0.heap.size + 1]? = _; rw [← hsz1, heap_alloc_new]⟩ ?_⟩
  ·simp [results, Tryz.f66, loadVar, asAddr, Tryz.isAgg38, Tryz.sizeOf38, l0]
  ·exact rd_pairI (rd_int .i64 code) (rd_pairI (rd_int .i64 t.2.2.1) (rd_pairI (rd_int .i64 t.2.2.2) (rd_str word))))
end Go.Proofs.YtnfegieaaaigmaaGreatDoor
