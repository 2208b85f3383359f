import Derived.Test.YtnfegieaaaigmaaGreatDoorLexApartBQue
namespace Go.Proofs.YtnfegieaaaigmaaGreatDoor
open Go Go.RowKit
section
variable {P : Program} {m : Nat} {w : World}
theorem calls_ofR {g : FuncId} {fn : Func} {c : Code} {args : List Value} {C : Ending → World → Prop} (hf : P.funcs[g]? = some fn) (hb : fn.body = some c) (hm : fn.ntmps = m) (hl : (Nat.ble args.length m && Nat.ble m 1000000) = true)
  (h : Wp P m none c (fun f w => f 1000000 = enc [] ∧ ∃ v, (∀ a : Act, Fits m a f → (results fn a.tmps).run P w = .ok v w) ∧ C (.returned v) w) (fun f w => f 1000000 = enc [] ∧ ∃ v, (∀ a : Act, Fits m a f → (results fn a.tmps).run P w = .ok v w) ∧ C (.returned v) w) (fun _ _ _ => False) (upd (frOf args 0) 1000000 (enc [])) w) : Calls P g args.toArray w C :=
 calls_of _ hf hb hm hl (fun _ _ _ h1 ⟨h2, _, h3, h4⟩ => leaves_plain h1 h2 (h3 _ h1) h4) h
theorem res_cc {fn : Func} {f : Fr} {s0 t0 : Nat} {p0 v0 : Value} {s1 t1 : Nat} {p1 v1 : Value} (hr : fn.results = #[.cell s0 t0, .cell s1 t1]) (hlt0 : Nat.blt s0 1000000 = true) (ha0 : ∀ w, (isAgg t0).run P w = .ok false w) (hp0 : f s0 = p0) (h0 : At1 w p0 v0) (hlt1 : Nat.blt s1 1000000 = true) (ha1 : ∀ w, (isAgg t1).run P w = .ok false w) (hp1 : f s1 = p1) (h1 : At1 w p1 v1) : ∀ a : Act, Fits m a f → (results fn a.tmps).run P w = .ok (.tuple #[v0, v1]) w := by
 intro a hfit
 obtain ⟨b0, o0, rfl, q0⟩ := h0
 have g0 := hfit.get s0 (by simpa using hlt0)
 rw [hp0, Array.getD_eq_getD_getElem?] at g0
 obtain ⟨b1, o1, rfl, q1⟩ := h1
 have g1 := hfit.get s1 (by simpa using hlt1)
 rw [hp1, Array.getD_eq_getD_getElem?] at g1
 simp [results, hr, loadVar, asAddr, run_load, g0, ha0, q0, g1, ha1, q1]
theorem res_at {fn : Func} {f : Fr} {s0 t0 n0 : Nat} {p0 : Value} {cs0 : List Value} {s1 : Nat} {v1 : Value} (hr : fn.results = #[.cell s0 t0, .tmp s1]) (hlt0 : Nat.blt s0 1000000 = true) (ha0 : ∀ w, (isAgg t0).run P w = .ok true w) (hs0 : ∀ w, (sizeOf t0).run P w = .ok n0 w) (hp0 : f s0 = p0) (hn0 : cs0.length = n0) (h0 : AtN w p0 cs0) (hlt1 : Nat.blt s1 1000000 = true) (hp1 : f s1 = v1) : ∀ a : Act, Fits m a f → (results fn a.tmps).run P w = .ok (.tuple #[.agg cs0.toArray, v1]) w := by
 intro a hfit
 obtain ⟨b0, o0, rfl, q0⟩ := h0
 have l0 := run_loadCells_list (P := P) (w := w) ⟨b0, o0, none⟩ cs0 (fun j v hj => by rw [add_mk]; exact q0 j v hj)
 rw [hn0] at l0
 have g0 := hfit.get s0 (by simpa using hlt0)
 rw [hp0, Array.getD_eq_getD_getElem?] at g0
 have g1 := hfit.get s1 (by simpa using hlt1)
 rw [hp1, Array.getD_eq_getD_getElem?] at g1
 simp [results, hr, loadVar, asAddr, run_load, g0, ha0, hs0, l0, g1]
end

/-! ### results in cells, and loops over functions -/
section
variable {P : Program} {m : Nat} {w : World} {col : Col}
theorem leaves_marksR {fn : Func} {tmps : Array Value} {C : Ending → World → Prop} :
  ∀ (ds : List Nat) (w : World), Marks 499 col w ds → (∀ w', Keep 499 col w col w' → Still w w' → ∃ v, (results fn tmps).run P w' = .ok v w' ∧ C (.returned v) w') → LeavesInM (fen none) 0 P fn tmps C (marks ds) .returning w
 | [], w, _, h => h w (Keep.refl _ _ _) ⟨rfl, rfl, rfl⟩
 | D :: ds, w, hm, h => by
  obtain ⟨hn, hall⟩ := hm
  obtain ⟨h1, h2⟩ := hall D (by simp)
  have hk := Keep.put (w := w) (o := .deferred none) h1
  refine ⟨(by intro h; cases h), .inl ⟨D, _, rfl, run_takeDeferred h2, leaves_marksR ds _ ⟨(List.nodup_cons.1 hn).2, fun E hE => ?_⟩ fun w' k s => h w' (hk.trans k) ⟨s.1, s.2.1, s.2.2⟩⟩⟩
  obtain ⟨h3, h4⟩ := hall E (by simp [hE])
  exact ⟨h3, (World.putObj_heap_other (fun e => (List.nodup_cons.1 hn).1 (by rw [← e]; exact hE))).trans h4⟩
abbrev FinR (P : Program) (fn : Func) (m : Nat) (col : Col) (w : World) (f : Fr) (C : Ending → World → Prop) : Prop :=
 ∃ ds, f 1000000 = enc ds ∧ Marks 499 col w ds ∧ ∀ w', Keep 499 col w col w' → Still w w' → ∃ v, (∀ a : Act, Fits m a f → (results fn a.tmps).run P w' = .ok v w') ∧ C (.returned v) w'
theorem leaves_finR {fn : Func} {a : Act} {f : Fr} {C : Ending → World → Prop} (ha : Fits m a f) (h : ∃ col, FinR P fn m col w f C) : LeavesInM (fen none) 0 P fn a.tmps C a.defers .returning w := by
 obtain ⟨col, ds, h0, h1, h2⟩ := h
 rw [ha.defers, h0, dec_enc]
 exact leaves_marksR ds w h1 fun w' hk hs => by
  obtain ⟨v, h3, h4⟩ := h2 w' hk hs
  exact ⟨v, h3 a ha, h4⟩
theorem calls_ofMR {g : FuncId} {fn : Func} {c : Code} {args : List Value} {C : Ending → World → Prop} (hf : P.funcs[g]? = some fn) (hb : fn.body = some c) (hm : fn.ntmps = m) (hl : (Nat.ble args.length m && Nat.ble m 1000000) = true)
  (h : Wp P m none c (fun f w => ∃ col, FinR P fn m col w f C) (fun f w => ∃ col, FinR P fn m col w f C) (fun _ _ _ => False) (upd (frOf args 0) 1000000 (enc [])) w) : Calls P g args.toArray w C :=
 calls_of _ hf hb hm hl (fun _ _ _ h1 h2 => leaves_finR h1 h2) h
end
end Go.Proofs.YtnfegieaaaigmaaGreatDoor
