import Derived.Test.YtpkknichfgooaaaGreatTopBitsBQue
namespace Go.Proofs.YtpkknichfgooaaaGreat
open Go Go.RowKit
open Nat renaming ble→cV,blt→aR
open List renaming nodup_cons→cQ
open Go.IntKind (i8 i16 i32 i64 u8 u16 u32 u64)
section
variable {P:Program} {m:Nat} {w:World}
theorem Yb {g:FuncId} {fn:Func} {c:Code} {args:List Value} {C:Ending→World→Prop} (hf:P.funcs[g]?=some fn) (hb:fn.body=some c) (hm:fn.ntmps=m) (hl:(cV args.length m&&cV m 1000000)=true)
  (h:Wp P m none c (fun f w=>f 1000000=enc []∧∃ v,(∀ a:Act,Y8 m a f→(results fn a.tmps).run P w= .ok v w)∧C (.returned v) w) (fun f w=>f 1000000=enc []∧∃ v,(∀ a:Act,Y8 m a f→(results fn a.tmps).run P w= .ok v w)∧C (.returned v) w) (fun _ _ _=>False) (Z3 (Sn args 0) 1000000 (enc [])) w):Calls P g args.toArray w C:=
 Zdd _ hf hb hm hl (fun _ _ _ b ⟨d,_,e,i⟩=>Zla b d (e _ b) i) h
theorem Zkh {fn:Func} {s t:Nat} {f:Fr} {ptr v:Value} (hr:fn.results=#[.cell s t]) (hlt:aR s 1000000=true) (ha:∀ w,(isAgg t).run P w= .ok false w) (hp:f s=ptr) (h:Tz w ptr v):∀ a:Act,Y8 m a f→(results fn a.tmps).run P w= .ok v w:=by
 intro a c
 obtain ⟨b,o,rfl,e⟩:=h
 have d:=c.get s (by simpa using hlt)
 rw [hp] at d
 rw [Array.getD_eq_getD_getElem?] at d
 simp [results,hr,loadVar,ha,d,run_load,asAddr,e]
theorem Z0p {fn:Func} {f:Fr} {s0 t0 n0:Nat} {p0:Value} {cs0:List Value} (hr:fn.results=#[.cell s0 t0]) (hlt0:aR s0 1000000=true) (ha0:∀ w,(isAgg t0).run P w= .ok true w) (hs0:∀ w,(sizeOf t0).run P w= .ok n0 w) (hp0:f s0=p0) (hn0:cs0.length=n0) (h0:V2 w p0 cs0):∀ a:Act,Y8 m a f→(results fn a.tmps).run P w= .ok (.agg cs0.toArray) w:=by
 intro a b
 obtain ⟨e,g,rfl,q0⟩:=h0
 have c:=run_loadCells_list (P:=P) (w:=w) ⟨e,g,none⟩ cs0 (fun j v i=>by rw [Vh];exact q0 j v i)
 rw [hn0] at c
 have d:=b.get s0 (by simpa using hlt0)
 rw [hp0,Array.getD_eq_getD_getElem?] at d
 simp [results,hr,loadVar,asAddr,run_load,d,ha0,hs0,c]
theorem Xaa {fn:Func} {f:Fr} {s0 t0 n0:Nat} {p0:Value} {cs0:List Value} {s1:Nat} {v1:Value} (hr:fn.results=#[.cell s0 t0,.tmp s1]) (hlt0:aR s0 1000000=true) (ha0:∀ w,(isAgg t0).run P w= .ok true w) (hs0:∀ w,(sizeOf t0).run P w= .ok n0 w) (hp0:f s0=p0) (hn0:cs0.length=n0) (h0:V2 w p0 cs0) (hlt1:aR s1 1000000=true) (hp1:f s1=v1):∀ a:Act,Y8 m a f→(results fn a.tmps).run P w= .ok (.tuple #[.agg cs0.toArray,v1]) w:=by
 intro a b
 obtain ⟨g,i,rfl,q0⟩:=h0
 have c:=run_loadCells_list (P:=P) (w:=w) ⟨g,i,none⟩ cs0 (fun j v k=>by rw [Vh];exact q0 j v k)
 rw [hn0] at c
 have d:=b.get s0 (by simpa using hlt0)
 rw [hp0,Array.getD_eq_getD_getElem?] at d
 have e:=b.get s1 (by simpa using hlt1)
 rw [hp1,Array.getD_eq_getD_getElem?] at e
 simp [results,hr,loadVar,asAddr,run_load,d,ha0,hs0,c,e]
end

/-! ### results in cells,and loops over functions -/
section
variable {P:Program} {m:Nat} {w:World} {col:Zg}
theorem Zx7 {fn:Func} {tmps:Array Value} {C:Ending→World→Prop}:
  ∀ (ds:List Nat) (w:World),Yq 499 col w ds→(∀ w',Yh 499 col w col w'→Yn w w'→∃ v,(results fn tmps).run P w'= .ok v w'∧C (.returned v) w')→LeavesInM (Yy none) 0 P fn tmps C (Zc2 ds) .returning w
 | [],w,_,h=>h w (Yh.refl _ _ _) ⟨rfl,rfl,rfl⟩
 | D :: ds,w,d,h=>by
  obtain ⟨b,a⟩:=d
  obtain ⟨f,g⟩:=a D (by simp)
  have i:=Yh.put (w:=w) (o:=.deferred none) f
  refine ⟨(by intro h;cases h),.inl ⟨D,_,rfl,run_takeDeferred g,Zx7 ds _ ⟨(cQ.1 b).2,fun E c=>?_⟩ fun w' k s=>h w' (i.trans k) ⟨s.1,s.2.1,s.2.2⟩⟩⟩
  obtain ⟨j,l⟩:=a E (by simp [c])
  exact ⟨j,(World.putObj_heap_other (fun e=>(cQ.1 b).1 (by rw [← e];exact c))).trans l⟩
abbrev Zqk (P:Program) (fn:Func) (m:Nat) (col:Zg) (w:World) (f:Fr) (C:Ending→World→Prop):Prop:=
 ∃ ds,f 1000000=enc ds∧Yq 499 col w ds∧∀ w',Yh 499 col w col w'→Yn w w'→∃ v,(∀ a:Act,Y8 m a f→(results fn a.tmps).run P w'= .ok v w')∧C (.returned v) w'
theorem Z79 {fn:Func} {a:Act} {f:Fr} {C:Ending→World→Prop} (ha:Y8 m a f) (h:∃ col,Zqk P fn m col w f C):LeavesInM (Yy none) 0 P fn a.tmps C a.defers .returning w:=by
 obtain ⟨col,b,c,d,e⟩:=h
 rw [ha.defers,c,Zdg]
 exact Zx7 b w d fun g i j=>by
  obtain ⟨v,k,l⟩:=e g i j
  exact ⟨v,k a ha,l⟩
theorem Zrb {g:FuncId} {fn:Func} {c:Code} {args:List Value} {C:Ending→World→Prop} (hf:P.funcs[g]?=some fn) (hb:fn.body=some c) (hm:fn.ntmps=m) (hl:(cV args.length m&&cV m 1000000)=true)
  (h:Wp P m none c (fun f w=>∃ col,Zqk P fn m col w f C) (fun f w=>∃ col,Zqk P fn m col w f C) (fun _ _ _=>False) (Z3 (Sn args 0) 1000000 (enc [])) w):Calls P g args.toArray w C:=
 Zdd _ hf hb hm hl (fun _ _ _ a b=>Z79 a b) h
end
end Go.Proofs.YtpkknichfgooaaaGreat
