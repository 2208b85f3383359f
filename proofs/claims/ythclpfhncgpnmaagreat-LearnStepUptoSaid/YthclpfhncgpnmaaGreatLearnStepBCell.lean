import Derived.Test.YthclpfhncgpnmaaGreatLearnStepBQue
namespace Go.Proofs.YthclpfhncgpnmaaGreat
open Go Go.RowKit
open Nat renaming ble→dM,blt→bE
open List renaming nodup_cons→cU
open Go.IntKind (i8 i16 i32 i64 u8 u16 u32 u64)
section
variable {P:Program} {m:Nat} {w:World}
theorem Yx {g:FuncId} {fn:Func} {c:Code} {args:List Value} {C:Ending→World→Prop} (hf:P.funcs[g]?=some fn) (hb:fn.body=some c) (hm:fn.ntmps=m) (hl:(dM args.length m&&dM m 1000000)=true)
  (h:Wp P m none c (fun f w=>f 1000000=enc []∧∃ v,(∀ a:Act,Y9 m a f→(results fn a.tmps).run P w= .ok v w)∧C (.returned v) w) (fun f w=>f 1000000=enc []∧∃ v,(∀ a:Act,Y9 m a f→(results fn a.tmps).run P w= .ok v w)∧C (.returned v) w) (fun _ _ _=>False) (Z8 (T9 args 0) 1000000 (enc [])) w):Calls P g args.toArray w C:=
 Zd1 _ hf hb hm hl (fun _ _ _ b ⟨d,_,e,i⟩=>Zl0 b d (e _ b) i) h
theorem Z1c {fn:Func} {s t:Nat} {f:Fr} {ptr v:Value} (hr:fn.results=#[.cell s t]) (hlt:bE s 1000000=true) (ha:∀ w,(isAgg t).run P w= .ok false w) (hp:f s=ptr) (h:T8 w ptr v):∀ a:Act,Y9 m a f→(results fn a.tmps).run P w= .ok v w:=by
 intro a c
 obtain ⟨b,o,rfl,e⟩:=h
 have d:=c.get s (by simpa using hlt)
 rw [hp] at d
 rw [Array.getD_eq_getD_getElem?] at d
 simp [results,hr,loadVar,ha,d,run_load,asAddr,e]
theorem Xbg {fn:Func} {f:Fr} {s0 t0 n0:Nat} {p0:Value} {cs0:List Value} (hr:fn.results=#[.cell s0 t0]) (hlt0:bE s0 1000000=true) (ha0:∀ w,(isAgg t0).run P w= .ok true w) (hs0:∀ w,(sizeOf t0).run P w= .ok n0 w) (hp0:f s0=p0) (hn0:cs0.length=n0) (h0:Ue w p0 cs0):∀ a:Act,Y9 m a f→(results fn a.tmps).run P w= .ok (.agg cs0.toArray) w:=by
 intro a b
 obtain ⟨e,g,rfl,q0⟩:=h0
 have c:=run_loadCells_list (P:=P) (w:=w) ⟨e,g,none⟩ cs0 (fun j v i=>by rw [V8];exact q0 j v i)
 rw [hn0] at c
 have d:=b.get s0 (by simpa using hlt0)
 rw [hp0,Array.getD_eq_getD_getElem?] at d
 simp [results,hr,loadVar,asAddr,run_load,d,ha0,hs0,c]
theorem Xbh {fn:Func} {f:Fr} {s0 t0 n0:Nat} {p0:Value} {cs0:List Value} {s1:Nat} {v1:Value} (hr:fn.results=#[.cell s0 t0,.tmp s1]) (hlt0:bE s0 1000000=true) (ha0:∀ w,(isAgg t0).run P w= .ok true w) (hs0:∀ w,(sizeOf t0).run P w= .ok n0 w) (hp0:f s0=p0) (hn0:cs0.length=n0) (h0:Ue w p0 cs0) (hlt1:bE s1 1000000=true) (hp1:f s1=v1):∀ a:Act,Y9 m a f→(results fn a.tmps).run P w= .ok (.tuple #[.agg cs0.toArray,v1]) w:=by
 intro a b
 obtain ⟨g,i,rfl,q0⟩:=h0
 have c:=run_loadCells_list (P:=P) (w:=w) ⟨g,i,none⟩ cs0 (fun j v k=>by rw [V8];exact q0 j v k)
 rw [hn0] at c
 have d:=b.get s0 (by simpa using hlt0)
 rw [hp0,Array.getD_eq_getD_getElem?] at d
 have e:=b.get s1 (by simpa using hlt1)
 rw [hp1,Array.getD_eq_getD_getElem?] at e
 simp [results,hr,loadVar,asAddr,run_load,d,ha0,hs0,c,e]
end

/-! ### results in cells,and loops over functions -/
section
variable {P:Program} {m:Nat} {w:World} {col:Ze}
theorem Zx9 {fn:Func} {tmps:Array Value} {C:Ending→World→Prop}:
  ∀ (ds:List Nat) (w:World),Wh 499 col w ds→(∀ w',Yf 499 col w col w'→Yq w w'→∃ v,(results fn tmps).run P w'= .ok v w'∧C (.returned v) w')→LeavesInM (Yw none) 0 P fn tmps C (Zb8 ds) .returning w
 | [],w,_,h=>h w (Yf.refl _ _ _) ⟨rfl,rfl,rfl⟩
 | D :: ds,w,d,h=>by
  obtain ⟨b,a⟩:=d
  obtain ⟨f,g⟩:=a D (by simp)
  have i:=Yf.put (w:=w) (o:=.deferred none) f
  refine ⟨(by intro h;cases h),.inl ⟨D,_,rfl,run_takeDeferred g,Zx9 ds _ ⟨(cU.1 b).2,fun E c=>?_⟩ fun w' k s=>h w' (i.trans k) ⟨s.1,s.2.1,s.2.2⟩⟩⟩
  obtain ⟨j,l⟩:=a E (by simp [c])
  exact ⟨j,(World.putObj_heap_other (fun e=>(cU.1 b).1 (by rw [← e];exact c))).trans l⟩
abbrev Zrm (P:Program) (fn:Func) (m:Nat) (col:Ze) (w:World) (f:Fr) (C:Ending→World→Prop):Prop:=
 ∃ ds,f 1000000=enc ds∧Wh 499 col w ds∧∀ w',Yf 499 col w col w'→Yq w w'→∃ v,(∀ a:Act,Y9 m a f→(results fn a.tmps).run P w'= .ok v w')∧C (.returned v) w'
theorem Z9b {fn:Func} {a:Act} {f:Fr} {C:Ending→World→Prop} (ha:Y9 m a f) (h:∃ col,Zrm P fn m col w f C):LeavesInM (Yw none) 0 P fn a.tmps C a.defers .returning w:=by
 obtain ⟨col,b,c,d,e⟩:=h
 rw [ha.defers,c,Zd3]
 exact Zx9 b w d fun g i j=>by
  obtain ⟨v,k,l⟩:=e g i j
  exact ⟨v,k a ha,l⟩
theorem Z7a {g:FuncId} {fn:Func} {c:Code} {args:List Value} {C:Ending→World→Prop} (hf:P.funcs[g]?=some fn) (hb:fn.body=some c) (hm:fn.ntmps=m) (hl:(dM args.length m&&dM m 1000000)=true)
  (h:Wp P m none c (fun f w=>∃ col,Zrm P fn m col w f C) (fun f w=>∃ col,Zrm P fn m col w f C) (fun _ _ _=>False) (Z8 (T9 args 0) 1000000 (enc [])) w):Calls P g args.toArray w C:=
 Zd1 _ hf hb hm hl (fun _ _ _ a b=>Z9b a b) h
end
end Go.Proofs.YthclpfhncgpnmaaGreat
