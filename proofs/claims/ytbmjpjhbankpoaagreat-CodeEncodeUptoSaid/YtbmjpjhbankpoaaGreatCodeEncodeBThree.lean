/-
  Slices with three bounds, of what stays. Over any program.
-/
import Derived.Test.YtbmjpjhbankpoaaGreatCodeEncodeBFloat
import Derived.Test.YtbmjpjhbankpoaaGreatCodeEncodeBQue
import Derived.Test.YtbmjpjhbankpoaaGreatCodeEncodeBLibSort
import Derived.Laws.BytesString
import Derived.Laws.Cells
set_option linter.unusedVariables false
namespace Go.Proofs.YtbmjpjhbankpoaaGreat
open Go Go.RowKit
open Go.IntKind (i8 i16 i32 i64 u8 u16 u32 u64)

section
variable {P:Program} {f:Fr} {w:World} {t:Nat} {dst:Option Nat} {p:String} {af:Array Edge} {T e sz n cap:Nat} {a:Option Addr} {x lo hi mx:Operand}
theorem Z3q {kl kh km:IntKind} {l h m:Int} (hT:P.underlying T=some (.slice e)) (hsz:∀ w,(sizeOf e).run P w= .ok sz w) (hx:ev f x= .slice a n cap) (hl:ev f lo= .int kl l) (hh:ev f hi= .int kh h) (hm:ev f mx= .int km m) (h0:0≤l) (h1:l≤h) (h2:h≤m) (h3:m≤(cap:Int)):
  (execOp (ev f) ⟨dst,.slice T x (some lo) (some hi) (some mx),t,p,af,none⟩).run P w= .ok (.value (.slice (if m.toNat=l.toNat then a else a.map (·.add (l.toNat * sz))) (h.toNat - l.toNat) (m.toNat - l.toNat))) w:=by
 have h4:0≤h:=by omega
 have h5:0≤m:=by omega
 simp [execOp,Instr.sliceAt,run_underlying hT,hx,hl,hh,hm,Instr.slice,Instr.sliceBounds,Instr.sliceBound,asIntOf,h0,h3,h4,h5,hsz]
 rw [if_pos (by omega),if_pos (by omega)]
end
theorem Sl.recap {α:Type} {r:Za α} {col:Zf} {w:World} {a:Option Addr} {cap:Nat} {xs:List α} (h:Sl r col w a cap xs) {m:Nat} (hm:xs.length≤m):Sl r col w a m xs:=⟨⟨h.1.1,hm⟩,h.2⟩
def Uk (xs:List Int):ByteArray:=xs.foldl (fun r n=>r.push (UInt8.ofNat n.toNat)) ByteArray.empty
section
variable {P:Program} {f:Fr} {w:World} {t:Nat} {dst:Option Nat} {p:String} {af:Array Edge} {S D e c c2 cap:Nat} {col:Zf} {a:Option Addr} {x:Operand} {xs:List Int}
theorem Zu2 (h:Zam (Za.int .u8) c c2 col w a xs) (hS:P.underlying S=some (.slice e)) (he:P.underlying e=some (.int .u8)) (hD:P.underlying D=some .string) (hx:ev f x= .slice a xs.length cap):
  (execOp (ev f) ⟨dst,.convert S D x,t,p,af,none⟩).run P w= .ok (.value (.string (Uk xs))) w:=by
 obtain ⟨by2,h,_,_⟩:=h
 have hc:(convert S D (.slice a xs.length cap)).run P w= .ok (.string (Uk xs)) w:=by
  rw [run_convert_bytes_string w S D e a xs.length cap hS he hD]
  rcases h with ⟨rfl,_⟩ | ⟨b,o,fl,rfl,hr,hx2⟩
  ·cases a with
   | none=>simp [Conv.bytesToString,Uk,Sem.run_pure]
   | some A=>
    have:=run_bytesToString (P:=P) w A 0 cap [] (by simp [loadCells,loadCellsFrom])
    simpa [Uk] using this
  ·obtain ⟨rfl,rfl⟩:=Zwo hr
   have:=run_loadCells_list (P:=P) (w:=w) ⟨b,o,none⟩ (xs.map (Value.int .u8)) (fun j v hj=>by rw [W3];exact hx2 j v hj)
   rw [List.length_map] at this
   exact run_bytesToString w ⟨b,o,none⟩ xs.length cap xs this
 simp [execOp,hx,hc]
end
section
variable {P:Program} {m:Nat} {w:World}
theorem Zc9 {fn:Func} {f:Fr} {s0 t0 n0:Nat} {p0:Value} {cs0:List Value} {s1 t1 n1:Nat} {p1:Value} {cs1:List Value} {s2:Nat} {v2:Value} (hr:fn.results=#[.cell s0 t0,.cell s1 t1,.tmp s2]) (hlt0:Nat.blt s0 1000000=true) (ha0:∀ w,(isAgg t0).run P w= .ok true w) (hs0:∀ w,(sizeOf t0).run P w= .ok n0 w) (hp0:f s0=p0) (hn0:cs0.length=n0) (h0:Vc w p0 cs0) (hlt1:Nat.blt s1 1000000=true) (ha1:∀ w,(isAgg t1).run P w= .ok true w) (hs1:∀ w,(sizeOf t1).run P w= .ok n1 w) (hp1:f s1=p1) (hn1:cs1.length=n1) (h1:Vc w p1 cs1) (hlt2:Nat.blt s2 1000000=true) (hp2:f s2=v2):∀ a:Act,Yl m a f→(results fn a.tmps).run P w= .ok (.tuple #[.agg cs0.toArray,.agg cs1.toArray,v2]) w:=by
 intro a hfit
 obtain ⟨b0,o0,rfl,q0⟩:=h0
 have l0:=run_loadCells_list (P:=P) (w:=w) ⟨b0,o0,none⟩ cs0 (fun j v hj=>by rw [W3];exact q0 j v hj)
 rw [hn0] at l0
 have g0:=hfit.get s0 (by simpa using hlt0)
 rw [hp0,Array.getD_eq_getD_getElem?] at g0
 obtain ⟨b1,o1,rfl,q1⟩:=h1
 have l1:=run_loadCells_list (P:=P) (w:=w) ⟨b1,o1,none⟩ cs1 (fun j v hj=>by rw [W3];exact q1 j v hj)
 rw [hn1] at l1
 have g1:=hfit.get s1 (by simpa using hlt1)
 rw [hp1,Array.getD_eq_getD_getElem?] at g1
 have g2:=hfit.get s2 (by simpa using hlt2)
 rw [hp2,Array.getD_eq_getD_getElem?] at g2
 simp [results,hr,loadVar,asAddr,run_load,ha0,hs0,l0,g0,ha1,hs1,l1,g1,g2]
theorem Zvx {fn:Func} {f:Fr} {s0:Nat} {v0:Value} {s1 t1 n1:Nat} {p1:Value} {cs1:List Value} {s2:Nat} {v2:Value} (hr:fn.results=#[.tmp s0,.cell s1 t1,.tmp s2]) (hlt0:Nat.blt s0 1000000=true) (hp0:f s0=v0) (hlt1:Nat.blt s1 1000000=true) (ha1:∀ w,(isAgg t1).run P w= .ok true w) (hs1:∀ w,(sizeOf t1).run P w= .ok n1 w) (hp1:f s1=p1) (hn1:cs1.length=n1) (h1:Vc w p1 cs1) (hlt2:Nat.blt s2 1000000=true) (hp2:f s2=v2):∀ a:Act,Yl m a f→(results fn a.tmps).run P w= .ok (.tuple #[v0,.agg cs1.toArray,v2]) w:=by
 intro a hfit
 have g0:=hfit.get s0 (by simpa using hlt0)
 rw [hp0,Array.getD_eq_getD_getElem?] at g0
 obtain ⟨b1,o1,rfl,q1⟩:=h1
 have l1:=run_loadCells_list (P:=P) (w:=w) ⟨b1,o1,none⟩ cs1 (fun j v hj=>by rw [W3];exact q1 j v hj)
 rw [hn1] at l1
 have g1:=hfit.get s1 (by simpa using hlt1)
 rw [hp1,Array.getD_eq_getD_getElem?] at g1
 have g2:=hfit.get s2 (by simpa using hlt2)
 rw [hp2,Array.getD_eq_getD_getElem?] at g2
 simp [results,hr,loadVar,asAddr,run_load,g0,ha1,hs1,l1,g1,g2]
end
end Go.Proofs.YtbmjpjhbankpoaaGreat
