/-
  Slices with three bounds, of what stays. Over any program.
-/
import Derived.Test.YtpkknichfgooaaaGreatTopBitsBFloat
import Derived.Test.YtpkknichfgooaaaGreatTopBitsBQue
import Derived.Test.YtpkknichfgooaaaGreatTopBitsBLibSort
import Derived.Laws.BytesString
import Derived.Laws.Cells
set_option linter.unusedVariables false
namespace Go.Proofs.YtpkknichfgooaaaGreat
open Go Go.RowKit
open List renaming size_toArray→dC,length_nil→fH
open Nat renaming add_mul→bI,blt→aR
open Go.IntKind (i8 i16 i32 i64 u8 u16 u32 u64)

section
variable {P:Program} {f:Fr} {w:World} {t:Nat} {dst:Option Nat} {p:String} {af:Array Edge} {T e sz n cap:Nat} {a:Option Addr} {x lo hi mx:Operand}
theorem Z90 {kh km:IntKind} {h m:Int} (hT:P.underlying T=some (.slice e)) (hsz:∀ w,(sizeOf e).run P w= .ok sz w) (hx:ev f x= .slice a n cap) (hh:ev f hi= .int kh h) (hm:ev f mx= .int km m) (h0:0≤h) (h1:h≤m) (h2:m≤(cap:Int)):
  (execOp (ev f) ⟨dst,.slice T x none (some hi) (some mx),t,p,af,none⟩).run P w= .ok (.value (.slice a h.toNat m.toNat)) w:=by
 have g:(Option.map (fun x=>x.add 0) a)=a:=by cases a <;> simp [add_zero]
 have i:0≤m:=by omega
 simp [execOp,Instr.sliceAt,run_underlying hT,hx,hh,hm,Instr.slice,Instr.sliceBounds,Instr.sliceBound,asIntOf,h0,h2,i,hsz,g]
 all_goals (intro j;omega)
theorem Z91 {kl kh km:IntKind} {l h m:Int} (hT:P.underlying T=some (.slice e)) (hsz:∀ w,(sizeOf e).run P w= .ok sz w) (hx:ev f x= .slice a n cap) (hl:ev f lo= .int kl l) (hh:ev f hi= .int kh h) (hm:ev f mx= .int km m) (h0:0≤l) (h1:l≤h) (h2:h≤m) (h3:m≤(cap:Int)):
  (execOp (ev f) ⟨dst,.slice T x (some lo) (some hi) (some mx),t,p,af,none⟩).run P w= .ok (.value (.slice (if m.toNat=l.toNat then a else a.map (·.add (l.toNat * sz))) (h.toNat - l.toNat) (m.toNat - l.toNat))) w:=by
 have g:0≤h:=by omega
 have i:0≤m:=by omega
 simp [execOp,Instr.sliceAt,run_underlying hT,hx,hl,hh,hm,Instr.slice,Instr.sliceBounds,Instr.sliceBound,asIntOf,h0,h3,g,i,hsz]
 rw [if_pos (by omega),if_pos (by omega)]
end
theorem Sl.recap {α:Type} {r:Zc α} {col:Zg} {w:World} {a:Option Addr} {cap:Nat} {xs:List α} (h:Sl r col w a cap xs) {m:Nat} (hm:xs.length≤m):Sl r col w a m xs:=⟨⟨h.1.1,hm⟩,h.2⟩
section
variable {α:Type} {P:Program} {r:Zc α} {e m d:Nat} {rd:Option Nat} {f:Fr} {ops:Array Oper} {K:Fr→World→Prop} {rest:List Oper} {t:Nat} {p:String} {af:Array Edge} {x y:Operand} {col:Zg} {w:World} {xs ys:List α}
theorem Sl.appendFull {T c c2 c3 cap cap2 sz bytes:Nat} {dst:Option Nat} {a a2:Option Addr} (h:Sl r col w a cap xs) (hcap:cap=xs.length) (hn:NB r) (hys:ys≠[]) (h2:Qm r c c2 col w a2 ys) (hT:P.underlying T=some (.slice e)) (he:Wk P e sz bytes) (hsz:r.sz=sz)
  (hx:ev f x= .slice a xs.length cap) (hy:ev f y= .slice a2 ys.length cap2) (hb:(xs.length+ys.length) * bytes≤140737488355328) (hl:xs.length+ys.length≤maxLen):
  ∃ a1 cap1 w',(execOp (ev f) ⟨dst,.call { callee:=.builtin .append,args:=#[x,y],argTypes:=#[T,T] },t,p,af,none⟩).run P w= .ok (.value (.slice a1 (xs++ys).length cap1)) w'∧
   Zl col w (Yz col w c3) w'∧Zb r e c3 (Yz col w c3) w' a1 cap1 (xs++ys):=by
 subst hcap
 obtain ⟨i,z,hi,hz,W,O,Q⟩:=he
 subst hsz
 have u:∀ v w',(Builtin.append_ #[T,T] t #[.slice a xs.length xs.length,.slice a2 ys.length cap2]).run P w= .ok v w'→
   (execOp (ev f) ⟨dst,.call { callee:=.builtin .append,args:=#[x,y],argTypes:=#[T,T] },t,p,af,none⟩).run P w= .ok (.value v) w':=by
  intro v w' o
  simp [execOp,resolve,invoke,builtin,hx,hy,o]
 obtain ⟨b5,h2,_,_⟩:=h2
 rcases h2 with h2 | ⟨H,X,l,rfl,B,a5⟩
 ·exact absurd h2.1 hys
 have Y:0<ys.length:=List.length_pos_iff.2 hys
 have q:=B.length
 have a6:=B.nb hn
 subst a6
 have C:∀ j v,l[j]?=some v→w.cell? ((⟨H,X,none⟩:Addr).add j)=some v:=fun j v Z=>by rw [Vh];exact a5 j v Z
 have F:∀ (g:List Value) (cs:Array Value) (G:Nat),Rows r col w g xs []→cs.toList.take ((xs++ys).length * r.sz)=g++l→cs.size=G * r.sz→xs.length+ys.length≤G→G≤maxLen→
   Zl col w (Yz col w c3) (w.drew.alloc (.cells cs e))∧Zb r e c3 (Yz col w c3) (w.drew.alloc (.cells cs e)) (some ⟨w.heap.size,0,none⟩) G (xs++ys):=by
  intro g cs G o a7 L a8 hm
  have hg:Below w.heap.size w (w.drew.alloc (.cells cs e)):=((Below.refl w.heap.size w).drew).alloc (Nat.le_refl _) _
  have hG:Zl col w (Yz col w c3) (w.drew.alloc (.cells cs e)):=⟨hg,fun k M=>by simp [Yz,M]⟩
  have b1:Yu col w (Yz col w c3) (w.drew.alloc (.cells cs e)):=fun k M h0=>⟨(hG.tint k M).trans h0,hg.block k M⟩
  have I:=o.append B
  refine ⟨hG,[w.heap.size],⟨g++l,[],⟨by rw [I.length],.inr ⟨w.heap.size,G,cs,rfl,Nat.zero_le _,heap_alloc_new w.drew _,by simpa using a8,hm,L,a7⟩⟩,I.keep b1 (by simp),by simp [Value.ownBlock]⟩,by simp,fun b hb=>?_⟩
  simp only [List.mem_singleton] at hb
  subst hb
  simp [Yz]
 have U:∀ (A:Addr) (g:List Value),a=some A→Rows r col w g xs []→(∀ j v,g[j]?=some v→w.cell? (A.add j)=some v)→_:=fun A g ha o J=>by
  have V:=o.length
  have s:=run_append_grow (P:=P) w T t e i z hT hi hz A xs.length xs.length g (by rw [V,W]) J ⟨H,X,none⟩ ys.length cap2 l (by rw [q,W]) C (by omega) (by simp only [maxLen] at hl;omega)
   (by rw [O];exact growslice_fits (by omega) hb)
  obtain ⟨q1,q2⟩:=F g (g.toArray++l.toArray++Builtin.zeroCells z.cells (grownCap w (xs.length+ys.length) xs.length e - (xs.length+ys.length))) (grownCap w (xs.length+ys.length) xs.length e) o (by
    have:=(o.append B).length
    simp only [Array.toList_append]
    rw [← this,List.take_left' (by simp)]) (by
    have:=grownCap_ge w (xs.length+ys.length) xs.length e
    simp only [Array.size_append,dC,size_zeroCells,q,V,Q];rw [← bI,← bI];congr 1;omega)
   (grownCap_ge w _ _ _) (grownCap_le_maxLen w _ _ _ hl)
  exact (⟨_,_,_,u _ _ (by rw [ha,List.length_append];exact s),q1,q2⟩:∃ a1 cap1 w',(execOp (ev f) ⟨dst,.call { callee:=.builtin .append,args:=#[x,y],argTypes:=#[T,T] },t,p,af,none⟩).run P w= .ok (.value (.slice a1 (xs++ys).length cap1)) w'∧
   Zl col w (Yz col w c3) w'∧Zb r e c3 (Yz col w c3) w' a1 cap1 (xs++ys))
 rcases h.2 with rfl | ⟨b,b6,g,ha,hb,o,b2⟩
 ·cases a with
  | none=>
   have s:=run_append_nil (P:=P) w T t e i z hT hi hz ⟨H,X,none⟩ ys.length cap2 l (by rw [q,W]) C Y (by simp only [maxLen,fH] at hl;omega) (by rw [O];simp only [fH,Nat.zero_add] at hb;omega)
   obtain ⟨q1,q2⟩:=F [] (l.toArray++Builtin.zeroCells z.cells (grownCap w ys.length 0 e - ys.length)) (grownCap w ys.length 0 e) ⟨rfl,rfl⟩ (by
     simp only [List.nil_append,Array.toList_append,List.take_append,← q];simp) (by
     have:=grownCap_ge w ys.length 0 e
     simp only [Array.size_append,dC,size_zeroCells,q,Q];rw [← bI];congr 1;omega)
    (by simpa using grownCap_ge w ys.length 0 e) (grownCap_le_maxLen w _ _ _ (by simpa using hl))
   exact ⟨_,_,_,u _ _ s,q1,q2⟩
  | some A=>exact U A [] rfl ⟨rfl,rfl⟩ (by simp)
 ·exact U _ g ha o fun j v Z=>by rw [Vh];exact b2 j v Z
theorem Z70 {T c c2 cap cap2 sz bytes:Nat} {a a2:Option Addr} (c3:Nat) (h:Sl r col w a cap xs) (hcap:cap=xs.length) (hn:NB r) (hys:ys≠[]) (h2:Qm r c c2 col w a2 ys) (hd:aR d m=true) (hT:P.underlying T=some (.slice e)) (he:Wk P e sz bytes) (hsz:r.sz=sz)
  (hx:ev f x= .slice a xs.length cap) (hy:ev f y= .slice a2 ys.length cap2) (hb:(xs.length+ys.length) * bytes≤140737488355328) (hl:xs.length+ys.length≤maxLen)
  (k:∀ a' cap' w' col',Zl col w col' w'→Zb r e c3 col' w' a' cap' (xs++ys)→Zv P m rd ops K rest (Z3 f d (.slice a' (xs++ys).length cap')) w'):
  Zv P m rd ops K (⟨some d,.call { callee:=.builtin .append,args:=#[x,y],argTypes:=#[T,T] },t,p,af,none⟩ :: rest) f w:=by
 obtain ⟨a',cap',w',g,i,j⟩:=Sl.appendFull (t:=t) (dst:=some d) (p:=p) (af:=af) (c3:=c3) h hcap hn hys h2 hT he hsz hx hy hb hl
 exact lv hd rfl g (k _ _ _ _ i j)
end
def Vc (xs:List Int):ByteArray:=xs.foldl (fun r n=>r.push (UInt8.ofNat n.toNat)) ByteArray.empty
section
variable {P:Program} {f:Fr} {w:World} {t:Nat} {dst:Option Nat} {p:String} {af:Array Edge} {S D e c c2 cap:Nat} {col:Zg} {a:Option Addr} {x:Operand} {xs:List Int}
theorem Z9o (h:Qm (Zc.int .u8) c c2 col w a xs) (hS:P.underlying S=some (.slice e)) (he:P.underlying e=some (.int .u8)) (hD:P.underlying D=some .string) (hx:ev f x= .slice a xs.length cap):
  (execOp (ev f) ⟨dst,.convert S D x,t,p,af,none⟩).run P w= .ok (.value (.string (Vc xs))) w:=by
 obtain ⟨s,h,_,_⟩:=h
 have i:(convert S D (.slice a xs.length cap)).run P w= .ok (.string (Vc xs)) w:=by
  rw [run_convert_bytes_string w S D e a xs.length cap hS he hD]
  rcases h with ⟨rfl,_⟩ | ⟨b,o,u,rfl,l,g⟩
  ·cases a with
   | none=>simp [Conv.bytesToString,Vc,Sem.run_pure]
   | some A=>
    have:=run_bytesToString (P:=P) w A 0 cap [] (by simp [loadCells,loadCellsFrom])
    simpa [Vc] using this
  ·obtain ⟨rfl,rfl⟩:=Z1b l
   have:=run_loadCells_list (P:=P) (w:=w) ⟨b,o,none⟩ (xs.map (Value.int .u8)) (fun j v q=>by rw [Vh];exact g j v q)
   rw [List.length_map] at this
   exact run_bytesToString w ⟨b,o,none⟩ xs.length cap xs this
 simp [execOp,hx,i]
end
section
variable {P:Program} {m:Nat} {w:World}
theorem Zp3 {fn:Func} {f:Fr} {s0 t0 n0:Nat} {p0:Value} {cs0:List Value} {s1 t1 n1:Nat} {p1:Value} {cs1:List Value} {s2:Nat} {v2:Value} (hr:fn.results=#[.cell s0 t0,.cell s1 t1,.tmp s2]) (hlt0:aR s0 1000000=true) (ha0:∀ w,(isAgg t0).run P w= .ok true w) (hs0:∀ w,(sizeOf t0).run P w= .ok n0 w) (hp0:f s0=p0) (hn0:cs0.length=n0) (h0:V2 w p0 cs0) (hlt1:aR s1 1000000=true) (ha1:∀ w,(isAgg t1).run P w= .ok true w) (hs1:∀ w,(sizeOf t1).run P w= .ok n1 w) (hp1:f s1=p1) (hn1:cs1.length=n1) (h1:V2 w p1 cs1) (hlt2:aR s2 1000000=true) (hp2:f s2=v2):∀ a:Act,Y8 m a f→(results fn a.tmps).run P w= .ok (.tuple #[.agg cs0.toArray,.agg cs1.toArray,v2]) w:=by
 intro a g
 obtain ⟨A,B,rfl,q0⟩:=h0
 have l:=run_loadCells_list (P:=P) (w:=w) ⟨A,B,none⟩ cs0 (fun j v i=>by rw [Vh];exact q0 j v i)
 rw [hn0] at l
 have o:=g.get s0 (by simpa using hlt0)
 rw [hp0,Array.getD_eq_getD_getElem?] at o
 obtain ⟨C,F,rfl,q1⟩:=h1
 have q:=run_loadCells_list (P:=P) (w:=w) ⟨C,F,none⟩ cs1 (fun j v i=>by rw [Vh];exact q1 j v i)
 rw [hn1] at q
 have s:=g.get s1 (by simpa using hlt1)
 rw [hp1,Array.getD_eq_getD_getElem?] at s
 have u:=g.get s2 (by simpa using hlt2)
 rw [hp2,Array.getD_eq_getD_getElem?] at u
 simp [results,hr,loadVar,asAddr,run_load,ha0,hs0,l,o,ha1,hs1,q,s,u]
theorem Zki {fn:Func} {f:Fr} {s0:Nat} {v0:Value} {s1 t1 n1:Nat} {p1:Value} {cs1:List Value} {s2:Nat} {v2:Value} (hr:fn.results=#[.tmp s0,.cell s1 t1,.tmp s2]) (hlt0:aR s0 1000000=true) (hp0:f s0=v0) (hlt1:aR s1 1000000=true) (ha1:∀ w,(isAgg t1).run P w= .ok true w) (hs1:∀ w,(sizeOf t1).run P w= .ok n1 w) (hp1:f s1=p1) (hn1:cs1.length=n1) (h1:V2 w p1 cs1) (hlt2:aR s2 1000000=true) (hp2:f s2=v2):∀ a:Act,Y8 m a f→(results fn a.tmps).run P w= .ok (.tuple #[v0,.agg cs1.toArray,v2]) w:=by
 intro a g
 have i:=g.get s0 (by simpa using hlt0)
 rw [hp0,Array.getD_eq_getD_getElem?] at i
 obtain ⟨s,u,rfl,q1⟩:=h1
 have l:=run_loadCells_list (P:=P) (w:=w) ⟨s,u,none⟩ cs1 (fun j v A=>by rw [Vh];exact q1 j v A)
 rw [hn1] at l
 have o:=g.get s1 (by simpa using hlt1)
 rw [hp1,Array.getD_eq_getD_getElem?] at o
 have q:=g.get s2 (by simpa using hlt2)
 rw [hp2,Array.getD_eq_getD_getElem?] at q
 simp [results,hr,loadVar,asAddr,run_load,i,ha1,hs1,l,o,q]
end
end Go.Proofs.YtpkknichfgooaaaGreat
