/-
  Slices with three bounds, of what stays. Over any program.
-/
import Derived.Test.YtkhnlgdenkikoaaGreatCodeShortBFloat
import Derived.Test.YtkhnlgdenkikoaaGreatCodeShortBQue
import Derived.Test.YtkhnlgdenkikoaaGreatCodeShortBLibSort
import Derived.Laws.BytesString
import Derived.Laws.Cells
set_option linter.unusedVariables false
namespace Go.Proofs.YtkhnlgdenkikoaaGreat
open Go Go.RowKit
open Go.IntKind (i8 i16 i32 i64 u8 u16 u32 u64)

section
variable {P:Program} {f:Fr} {w:World} {t:Nat} {dst:Option Nat} {p:String} {af:Array Edge} {T e sz n cap:Nat} {a:Option Addr} {x lo hi mx:Operand}
theorem Z4x {kh km:IntKind} {h m:Int} (hT:P.underlying T=some (.slice e)) (hsz:∀ w,(sizeOf e).run P w= .ok sz w) (hx:ev f x= .slice a n cap) (hh:ev f hi= .int kh h) (hm:ev f mx= .int km m) (h0:0≤h) (h1:h≤m) (h2:m≤(cap:Int)):
  (execOp (ev f) ⟨dst,.slice T x none (some hi) (some mx),t,p,af,none⟩).run P w= .ok (.value (.slice a h.toNat m.toNat)) w:=by
 have ha:(Option.map (fun x=>x.add 0) a)=a:=by cases a <;> simp [add_zero]
 have h3:0≤m:=by omega
 simp [execOp,Instr.sliceAt,run_underlying hT,hx,hh,hm,Instr.slice,Instr.sliceBounds,Instr.sliceBound,asIntOf,h0,h2,h3,hsz,ha]
 all_goals (intro h9;omega)
theorem Z4z {kl kh km:IntKind} {l h m:Int} (hT:P.underlying T=some (.slice e)) (hsz:∀ w,(sizeOf e).run P w= .ok sz w) (hx:ev f x= .slice a n cap) (hl:ev f lo= .int kl l) (hh:ev f hi= .int kh h) (hm:ev f mx= .int km m) (h0:0≤l) (h1:l≤h) (h2:h≤m) (h3:m≤(cap:Int)):
  (execOp (ev f) ⟨dst,.slice T x (some lo) (some hi) (some mx),t,p,af,none⟩).run P w= .ok (.value (.slice (if m.toNat=l.toNat then a else a.map (·.add (l.toNat * sz))) (h.toNat - l.toNat) (m.toNat - l.toNat))) w:=by
 have h4:0≤h:=by omega
 have h5:0≤m:=by omega
 simp [execOp,Instr.sliceAt,run_underlying hT,hx,hl,hh,hm,Instr.slice,Instr.sliceBounds,Instr.sliceBound,asIntOf,h0,h3,h4,h5,hsz]
 rw [if_pos (by omega),if_pos (by omega)]
end
theorem Sl.recap {α:Type} {r:Za α} {col:Ze} {w:World} {a:Option Addr} {cap:Nat} {xs:List α} (h:Sl r col w a cap xs) {m:Nat} (hm:xs.length≤m):Sl r col w a m xs:=⟨⟨h.1.1,hm⟩,h.2⟩
section
variable {α:Type} {P:Program} {r:Za α} {e m d:Nat} {rd:Option Nat} {f:Fr} {ops:Array Oper} {K:Fr→World→Prop} {rest:List Oper} {t:Nat} {p:String} {af:Array Edge} {x y:Operand} {col:Ze} {w:World} {xs ys:List α}
theorem Sl.appendFull {T c c2 c3 cap cap2 sz bytes:Nat} {dst:Option Nat} {a a2:Option Addr} (h:Sl r col w a cap xs) (hcap:cap=xs.length) (hn:NB r) (hys:ys≠[]) (h2:Sv r c c2 col w a2 ys) (hT:P.underlying T=some (.slice e)) (he:Wj P e sz bytes) (hsz:r.sz=sz)
  (hx:ev f x= .slice a xs.length cap) (hy:ev f y= .slice a2 ys.length cap2) (hb:(xs.length+ys.length) * bytes≤140737488355328) (hl:xs.length+ys.length≤maxLen):
  ∃ a1 cap1 w',(execOp (ev f) ⟨dst,.call { callee:=.builtin .append,args:=#[x,y],argTypes:=#[T,T] },t,p,af,none⟩).run P w= .ok (.value (.slice a1 (xs++ys).length cap1)) w'∧
   Zf col w (Yk col w c3) w'∧Zc r e c3 (Yk col w c3) w' a1 cap1 (xs++ys):=by
 subst hcap
 obtain ⟨i,z,hi,hz,hs,hby,hzs⟩:=he
 subst hsz
 have hexec:∀ v w',(Builtin.append_ #[T,T] t #[.slice a xs.length xs.length,.slice a2 ys.length cap2]).run P w= .ok v w'→
   (execOp (ev f) ⟨dst,.call { callee:=.builtin .append,args:=#[x,y],argTypes:=#[T,T] },t,p,af,none⟩).run P w= .ok (.value v) w':=by
  intro v w' hr
  simp [execOp,resolve,invoke,builtin,hx,hy,hr]
 obtain ⟨by2,h2,_,_⟩:=h2
 rcases h2 with h2 | ⟨bb2,o2,fl2,rfl,hr2,hx2⟩
 ·exact absurd h2.1 hys
 have hpos:0<ys.length:=List.length_pos_iff.2 hys
 have hl2:=hr2.length
 have hb0:=hr2.nb hn
 subst hb0
 have hnews:∀ j v,fl2[j]?=some v→w.cell? ((⟨bb2,o2,none⟩:Addr).add j)=some v:=fun j v hj=>by rw [W5];exact hx2 j v hj
 have hgrow:∀ (fl:List Value) (cs:Array Value) (cp:Nat),Rows r col w fl xs []→cs.toList.take ((xs++ys).length * r.sz)=fl++fl2→cs.size=cp * r.sz→xs.length+ys.length≤cp→cp≤maxLen→
   Zf col w (Yk col w c3) (w.drew.alloc (.cells cs e))∧Zc r e c3 (Yk col w c3) (w.drew.alloc (.cells cs e)) (some ⟨w.heap.size,0,none⟩) cp (xs++ys):=by
  intro fl cs cp hr htk hsize hcp hm
  have hg:Below w.heap.size w (w.drew.alloc (.cells cs e)):=((Below.refl w.heap.size w).drew).alloc (Nat.le_refl _) _
  have hG:Zf col w (Yk col w c3) (w.drew.alloc (.cells cs e)):=⟨hg,fun k hk=>by simp [Yk,hk]⟩
  have hst:Zl col w (Yk col w c3) (w.drew.alloc (.cells cs e)):=fun k hk h0=>⟨(hG.tint k hk).trans h0,hg.block k hk⟩
  have hall:=hr.append hr2
  refine ⟨hG,[w.heap.size],⟨fl++fl2,[],⟨by rw [hall.length],.inr ⟨w.heap.size,cp,cs,rfl,Nat.zero_le _,heap_alloc_new w.drew _,by simpa using hcp,hm,hsize,htk⟩⟩,hall.keep hst (by simp),by simp [Value.ownBlock]⟩,by simp,fun b hb=>?_⟩
  simp only [List.mem_singleton] at hb
  subst hb
  simp [Yk]
 have hgo:∀ (A:Addr) (fl:List Value),a=some A→Rows r col w fl xs []→(∀ j v,fl[j]?=some v→w.cell? (A.add j)=some v)→_:=fun A fl ha hr hcells=>by
  have hlf:=hr.length
  have hrun:=run_append_grow (P:=P) w T t e i z hT hi hz A xs.length xs.length fl (by rw [hlf,hs]) hcells ⟨bb2,o2,none⟩ ys.length cap2 fl2 (by rw [hl2,hs]) hnews (by omega) (by simp only [maxLen] at hl;omega)
   (by rw [hby];exact growslice_fits (by omega) hb)
  obtain ⟨q1,q2⟩:=hgrow fl (fl.toArray++fl2.toArray++Builtin.zeroCells z.cells (grownCap w (xs.length+ys.length) xs.length e - (xs.length+ys.length))) (grownCap w (xs.length+ys.length) xs.length e) hr (by
    have:=(hr.append hr2).length
    simp only [Array.toList_append]
    rw [← this,List.take_left' (by simp)]) (by
    have:=grownCap_ge w (xs.length+ys.length) xs.length e
    simp only [Array.size_append,List.size_toArray,size_zeroCells,hl2,hlf,hzs];rw [← Nat.add_mul,← Nat.add_mul];congr 1;omega)
   (grownCap_ge w _ _ _) (grownCap_le_maxLen w _ _ _ hl)
  exact (⟨_,_,_,hexec _ _ (by rw [ha,List.length_append];exact hrun),q1,q2⟩:∃ a1 cap1 w',(execOp (ev f) ⟨dst,.call { callee:=.builtin .append,args:=#[x,y],argTypes:=#[T,T] },t,p,af,none⟩).run P w= .ok (.value (.slice a1 (xs++ys).length cap1)) w'∧
   Zf col w (Yk col w c3) w'∧Zc r e c3 (Yk col w c3) w' a1 cap1 (xs++ys))
 rcases h.2 with rfl | ⟨b,off,fl,ha,hb,hr,hx1⟩
 ·cases a with
  | none=>
   have hrun:=run_append_nil (P:=P) w T t e i z hT hi hz ⟨bb2,o2,none⟩ ys.length cap2 fl2 (by rw [hl2,hs]) hnews hpos (by simp only [maxLen,List.length_nil] at hl;omega) (by rw [hby];simp only [List.length_nil,Nat.zero_add] at hb;omega)
   obtain ⟨q1,q2⟩:=hgrow [] (fl2.toArray++Builtin.zeroCells z.cells (grownCap w ys.length 0 e - ys.length)) (grownCap w ys.length 0 e) ⟨rfl,rfl⟩ (by
     simp only [List.nil_append,Array.toList_append,List.take_append,← hl2];simp) (by
     have:=grownCap_ge w ys.length 0 e
     simp only [Array.size_append,List.size_toArray,size_zeroCells,hl2,hzs];rw [← Nat.add_mul];congr 1;omega)
    (by simpa using grownCap_ge w ys.length 0 e) (grownCap_le_maxLen w _ _ _ (by simpa using hl))
   exact ⟨_,_,_,hexec _ _ hrun,q1,q2⟩
  | some A=>exact hgo A [] rfl ⟨rfl,rfl⟩ (by simp)
 ·exact hgo _ fl ha hr fun j v hj=>by rw [W5];exact hx1 j v hj
theorem Z2t {T c c2 cap cap2 sz bytes:Nat} {a a2:Option Addr} (c3:Nat) (h:Sl r col w a cap xs) (hcap:cap=xs.length) (hn:NB r) (hys:ys≠[]) (h2:Sv r c c2 col w a2 ys) (hd:Nat.blt d m=true) (hT:P.underlying T=some (.slice e)) (he:Wj P e sz bytes) (hsz:r.sz=sz)
  (hx:ev f x= .slice a xs.length cap) (hy:ev f y= .slice a2 ys.length cap2) (hb:(xs.length+ys.length) * bytes≤140737488355328) (hl:xs.length+ys.length≤maxLen)
  (k:∀ a' cap' w' col',Zf col w col' w'→Zc r e c3 col' w' a' cap' (xs++ys)→Zs P m rd ops K rest (Zx f d (.slice a' (xs++ys).length cap')) w'):
  Zs P m rd ops K (⟨some d,.call { callee:=.builtin .append,args:=#[x,y],argTypes:=#[T,T] },t,p,af,none⟩ :: rest) f w:=by
 obtain ⟨a',cap',w',hr,h1,h3⟩:=Sl.appendFull (t:=t) (dst:=some d) (p:=p) (af:=af) (c3:=c3) h hcap hn hys h2 hT he hsz hx hy hb hl
 exact lv hd rfl hr (k _ _ _ _ h1 h3)
end
def Yl (xs:List Int):ByteArray:=xs.foldl (fun r n=>r.push (UInt8.ofNat n.toNat)) ByteArray.empty
section
variable {P:Program} {f:Fr} {w:World} {t:Nat} {dst:Option Nat} {p:String} {af:Array Edge} {S D e c c2 cap:Nat} {col:Ze} {a:Option Addr} {x:Operand} {xs:List Int}
theorem Zwj (h:Sv (Za.int .u8) c c2 col w a xs) (hS:P.underlying S=some (.slice e)) (he:P.underlying e=some (.int .u8)) (hD:P.underlying D=some .string) (hx:ev f x= .slice a xs.length cap):
  (execOp (ev f) ⟨dst,.convert S D x,t,p,af,none⟩).run P w= .ok (.value (.string (Yl xs))) w:=by
 obtain ⟨by2,h,_,_⟩:=h
 have hc:(convert S D (.slice a xs.length cap)).run P w= .ok (.string (Yl xs)) w:=by
  rw [run_convert_bytes_string w S D e a xs.length cap hS he hD]
  rcases h with ⟨rfl,_⟩ | ⟨b,o,fl,rfl,hr,hx2⟩
  ·cases a with
   | none=>simp [Conv.bytesToString,Yl,Sem.run_pure]
   | some A=>
    have:=run_bytesToString (P:=P) w A 0 cap [] (by simp [loadCells,loadCellsFrom])
    simpa [Yl] using this
  ·obtain ⟨rfl,rfl⟩:=Zxg hr
   have:=run_loadCells_list (P:=P) (w:=w) ⟨b,o,none⟩ (xs.map (Value.int .u8)) (fun j v hj=>by rw [W5];exact hx2 j v hj)
   rw [List.length_map] at this
   exact run_bytesToString w ⟨b,o,none⟩ xs.length cap xs this
 simp [execOp,hx,hc]
end
section
variable {P:Program} {m:Nat} {w:World}
theorem Zm0 {fn:Func} {f:Fr} {s0 t0 n0:Nat} {p0:Value} {cs0:List Value} {s1 t1 n1:Nat} {p1:Value} {cs1:List Value} {s2:Nat} {v2:Value} (hr:fn.results=#[.cell s0 t0,.cell s1 t1,.tmp s2]) (hlt0:Nat.blt s0 1000000=true) (ha0:∀ w,(isAgg t0).run P w= .ok true w) (hs0:∀ w,(sizeOf t0).run P w= .ok n0 w) (hp0:f s0=p0) (hn0:cs0.length=n0) (h0:Vq w p0 cs0) (hlt1:Nat.blt s1 1000000=true) (ha1:∀ w,(isAgg t1).run P w= .ok true w) (hs1:∀ w,(sizeOf t1).run P w= .ok n1 w) (hp1:f s1=p1) (hn1:cs1.length=n1) (h1:Vq w p1 cs1) (hlt2:Nat.blt s2 1000000=true) (hp2:f s2=v2):∀ a:Act,Yy m a f→(results fn a.tmps).run P w= .ok (.tuple #[.agg cs0.toArray,.agg cs1.toArray,v2]) w:=by
 intro a hfit
 obtain ⟨b0,o0,rfl,q0⟩:=h0
 have l0:=run_loadCells_list (P:=P) (w:=w) ⟨b0,o0,none⟩ cs0 (fun j v hj=>by rw [W5];exact q0 j v hj)
 rw [hn0] at l0
 have g0:=hfit.get s0 (by simpa using hlt0)
 rw [hp0,Array.getD_eq_getD_getElem?] at g0
 obtain ⟨b1,o1,rfl,q1⟩:=h1
 have l1:=run_loadCells_list (P:=P) (w:=w) ⟨b1,o1,none⟩ cs1 (fun j v hj=>by rw [W5];exact q1 j v hj)
 rw [hn1] at l1
 have g1:=hfit.get s1 (by simpa using hlt1)
 rw [hp1,Array.getD_eq_getD_getElem?] at g1
 have g2:=hfit.get s2 (by simpa using hlt2)
 rw [hp2,Array.getD_eq_getD_getElem?] at g2
 simp [results,hr,loadVar,asAddr,run_load,ha0,hs0,l0,g0,ha1,hs1,l1,g1,g2]
theorem Zm1 {fn:Func} {f:Fr} {s0:Nat} {v0:Value} {s1 t1 n1:Nat} {p1:Value} {cs1:List Value} {s2:Nat} {v2:Value} (hr:fn.results=#[.tmp s0,.cell s1 t1,.tmp s2]) (hlt0:Nat.blt s0 1000000=true) (hp0:f s0=v0) (hlt1:Nat.blt s1 1000000=true) (ha1:∀ w,(isAgg t1).run P w= .ok true w) (hs1:∀ w,(sizeOf t1).run P w= .ok n1 w) (hp1:f s1=p1) (hn1:cs1.length=n1) (h1:Vq w p1 cs1) (hlt2:Nat.blt s2 1000000=true) (hp2:f s2=v2):∀ a:Act,Yy m a f→(results fn a.tmps).run P w= .ok (.tuple #[v0,.agg cs1.toArray,v2]) w:=by
 intro a hfit
 have g0:=hfit.get s0 (by simpa using hlt0)
 rw [hp0,Array.getD_eq_getD_getElem?] at g0
 obtain ⟨b1,o1,rfl,q1⟩:=h1
 have l1:=run_loadCells_list (P:=P) (w:=w) ⟨b1,o1,none⟩ cs1 (fun j v hj=>by rw [W5];exact q1 j v hj)
 rw [hn1] at l1
 have g1:=hfit.get s1 (by simpa using hlt1)
 rw [hp1,Array.getD_eq_getD_getElem?] at g1
 have g2:=hfit.get s2 (by simpa using hlt2)
 rw [hp2,Array.getD_eq_getD_getElem?] at g2
 simp [results,hr,loadVar,asAddr,run_load,g0,ha1,hs1,l1,g1,g2]
end
end Go.Proofs.YtkhnlgdenkikoaaGreat
