import Derived.Test.YtdpdogdkolblnaaGreatDoorQueryAskBQue
namespace Go.Proofs.YtdpdogdkolblnaaGreatDoor
open Go Go.RowKit
open Go.IntKind (i8 i16 i32 i64 u8 u16 u32 u64)
section
variable {P:Program} {m:Nat} {w:World}
theorem Wx {g:FuncId} {fn:Func} {c:Code} {args:List Value} {C:Ending→World→Prop} (hf:P.funcs[g]?=some fn) (hb:fn.body=some c) (hm:fn.ntmps=m) (hl:(Nat.ble args.length m&&Nat.ble m 1000000)=true)
  (h:Wp P m none c (fun f w=>f 1000000=enc []∧∃ v,(∀ a:Act,Yl m a f→(results fn a.tmps).run P w= .ok v w)∧C (.returned v) w) (fun f w=>f 1000000=enc []∧∃ v,(∀ a:Act,Yl m a f→(results fn a.tmps).run P w= .ok v w)∧C (.returned v) w) (fun _ _ _=>False) (Zu (U7 args 0) 1000000 (enc [])) w):Calls P g args.toArray w C:=
 Zbl _ hf hb hm hl (fun _ _ _ h1 ⟨h2,_,h3,h4⟩=>Zgb h1 h2 (h3 _ h1) h4) h
theorem Zue {fn:Func} {s t:Nat} {f:Fr} {ptr v:Value} (hr:fn.results=#[.cell s t]) (hlt:Nat.blt s 1000000=true) (ha:∀ w,(isAgg t).run P w= .ok false w) (hp:f s=ptr) (h:Ut w ptr v):∀ a:Act,Yl m a f→(results fn a.tmps).run P w= .ok v w:=by
 intro a hfit
 obtain ⟨b,o,rfl,h2⟩:=h
 have h1:=hfit.get s (by simpa using hlt)
 rw [hp] at h1
 rw [Array.getD_eq_getD_getElem?] at h1
 simp [results,hr,loadVar,ha,h1,run_load,asAddr,h2]
theorem Zoy {fn:Func} {f:Fr} {s0 t0 n0:Nat} {p0:Value} {cs0:List Value} (hr:fn.results=#[.cell s0 t0]) (hlt0:Nat.blt s0 1000000=true) (ha0:∀ w,(isAgg t0).run P w= .ok true w) (hs0:∀ w,(sizeOf t0).run P w= .ok n0 w) (hp0:f s0=p0) (hn0:cs0.length=n0) (h0:Vg w p0 cs0):∀ a:Act,Yl m a f→(results fn a.tmps).run P w= .ok (.agg cs0.toArray) w:=by
 intro a hfit
 obtain ⟨b0,o0,rfl,q0⟩:=h0
 have l0:=run_loadCells_list (P:=P) (w:=w) ⟨b0,o0,none⟩ cs0 (fun j v hj=>by rw [Vc];exact q0 j v hj)
 rw [hn0] at l0
 have g0:=hfit.get s0 (by simpa using hlt0)
 rw [hp0,Array.getD_eq_getD_getElem?] at g0
 simp [results,hr,loadVar,asAddr,run_load,g0,ha0,hs0,l0]
theorem Zbd {fn:Func} {f:Fr} {s0 t0 n0:Nat} {p0:Value} {cs0:List Value} {s1:Nat} {v1:Value} (hr:fn.results=#[.cell s0 t0,.tmp s1]) (hlt0:Nat.blt s0 1000000=true) (ha0:∀ w,(isAgg t0).run P w= .ok true w) (hs0:∀ w,(sizeOf t0).run P w= .ok n0 w) (hp0:f s0=p0) (hn0:cs0.length=n0) (h0:Vg w p0 cs0) (hlt1:Nat.blt s1 1000000=true) (hp1:f s1=v1):∀ a:Act,Yl m a f→(results fn a.tmps).run P w= .ok (.tuple #[.agg cs0.toArray,v1]) w:=by
 intro a hfit
 obtain ⟨b0,o0,rfl,q0⟩:=h0
 have l0:=run_loadCells_list (P:=P) (w:=w) ⟨b0,o0,none⟩ cs0 (fun j v hj=>by rw [Vc];exact q0 j v hj)
 rw [hn0] at l0
 have g0:=hfit.get s0 (by simpa using hlt0)
 rw [hp0,Array.getD_eq_getD_getElem?] at g0
 have g1:=hfit.get s1 (by simpa using hlt1)
 rw [hp1,Array.getD_eq_getD_getElem?] at g1
 simp [results,hr,loadVar,asAddr,run_load,g0,ha0,hs0,l0,g1]
end

/-! ### results in cells,and loops over functions -/
section
variable {P:Program} {m:Nat} {w:World} {col:Zd}
theorem Zrr {fn:Func} {tmps:Array Value} {C:Ending→World→Prop}:
  ∀ (ds:List Nat) (w:World),Y8 499 col w ds→(∀ w',Xe 499 col w col w'→Xt w w'→∃ v,(results fn tmps).run P w'= .ok v w'∧C (.returned v) w')→LeavesInM (X7 none) 0 P fn tmps C (Q1 ds) .returning w
 | [],w,_,h=>h w (Xe.refl _ _ _) ⟨rfl,rfl,rfl⟩
 | D :: ds,w,hm,h=>by
  obtain ⟨hn,hall⟩:=hm
  obtain ⟨h1,h2⟩:=hall D (by simp)
  have hk:=Xe.put (w:=w) (o:=.deferred none) h1
  refine ⟨(by intro h;cases h),.inl ⟨D,_,rfl,run_takeDeferred h2,Zrr ds _ ⟨(List.nodup_cons.1 hn).2,fun E hE=>?_⟩ fun w' k s=>h w' (hk.trans k) ⟨s.1,s.2.1,s.2.2⟩⟩⟩
  obtain ⟨h3,h4⟩:=hall E (by simp [hE])
  exact ⟨h3,(World.putObj_heap_other (fun e=>(List.nodup_cons.1 hn).1 (by rw [← e];exact hE))).trans h4⟩
abbrev Zl7 (P:Program) (fn:Func) (m:Nat) (col:Zd) (w:World) (f:Fr) (C:Ending→World→Prop):Prop:=
 ∃ ds,f 1000000=enc ds∧Y8 499 col w ds∧∀ w',Xe 499 col w col w'→Xt w w'→∃ v,(∀ a:Act,Yl m a f→(results fn a.tmps).run P w'= .ok v w')∧C (.returned v) w'
theorem Z06 {fn:Func} {a:Act} {f:Fr} {C:Ending→World→Prop} (ha:Yl m a f) (h:∃ col,Zl7 P fn m col w f C):LeavesInM (X7 none) 0 P fn a.tmps C a.defers .returning w:=by
 obtain ⟨col,ds,h0,h1,h2⟩:=h
 rw [ha.defers,h0,Zah]
 exact Zrr ds w h1 fun w' hk hs=>by
  obtain ⟨v,h3,h4⟩:=h2 w' hk hs
  exact ⟨v,h3 a ha,h4⟩
theorem Zy0 {g:FuncId} {fn:Func} {c:Code} {args:List Value} {C:Ending→World→Prop} (hf:P.funcs[g]?=some fn) (hb:fn.body=some c) (hm:fn.ntmps=m) (hl:(Nat.ble args.length m&&Nat.ble m 1000000)=true)
  (h:Wp P m none c (fun f w=>∃ col,Zl7 P fn m col w f C) (fun f w=>∃ col,Zl7 P fn m col w f C) (fun _ _ _=>False) (Zu (U7 args 0) 1000000 (enc [])) w):Calls P g args.toArray w C:=
 Zbl _ hf hb hm hl (fun _ _ _ h1 h2=>Z06 h1 h2) h
end
end Go.Proofs.YtdpdogdkolblnaaGreatDoor
