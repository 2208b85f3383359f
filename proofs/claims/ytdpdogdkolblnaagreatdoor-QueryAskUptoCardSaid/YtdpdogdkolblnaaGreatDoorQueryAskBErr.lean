/-
  Errors that tell a place: an interface value that is nil, or a pointer to data that stay; such pointers by themselves. Over any program.
-/
import Derived.Test.YtdpdogdkolblnaaGreatDoorQueryAskBMixD
import Derived.Test.YtdpdogdkolblnaaGreatDoorQueryAskBMore
import Derived.Test.YtdpdogdkolblnaaGreatDoorQueryAskBBld
import Derived.Test.YtdpdogdkolblnaaGreatDoorQueryAskBOpt
import Derived.Lib.ConvBytes
set_option linter.unusedVariables false
namespace Go.Proofs.YtdpdogdkolblnaaGreatDoor
open Go Go.RowKit
open Go.IntKind (i8 i16 i32 i64 u8 u16 u32 u64)

section
variable {α:Type} {r:Za α} {col col':Zd} {w w':World} {c i:Nat} {p:Nat→Bool}
def Rd (r:Za α) (col:Zd) (w:World) (cs:List Value) (x:α):Prop:=r.rd col w cs x []
theorem Rd.keep {cs:List Value} {x:α} (h:Rd r col w cs x) (hk:Zl col w col' w'):Rd r col' w' cs x:=r.keep h hk fun _ hb=>by cases hb
theorem Rd.kp {cs:List Value} {x:α} (h:Rd r col w cs x) (hk:Xe c col w col' w') (hc:c≠0:=by decide):Rd r col' w' cs x:=h.keep (hk.stay hc)
theorem Rd.gr {cs:List Value} {x:α} (h:Rd r col w cs x) (hg:Zg col w col' w'):Rd r col' w' cs x:=h.kp (hg.keep 1) (by omega)
theorem Rd.kpp {cs:List Value} {x:α} (h:Rd r col w cs x) (hk:Zs p col w col' w') (h0:p 0=false:=by rfl):Rd r col' w' cs x:=h.keep (hk.stay h0)
theorem Rd.froz {cs:List Value} {x:α} (c:Nat) (h:Rd r col w cs x):Rd r (Yi c col) w cs x:=h.keep (Zl.froz c)
theorem Rd.recol {cs:List Value} {x:α} (c d:Nat) (hc:c≠0:=by decide) (h:Rd r col w cs x):Rd r (Xh c d col) w cs x:=h.keep (Zl.recol c d hc)
def Wb (S:TypeId) (col:Zd) (w:World) (b:Nat) (cs:List Value):Prop:=col b=0∧w.heap[b]?=some (.cells cs.toArray S (0,0))
variable {S T:TypeId} {b:Nat} {cs:List Value}
theorem Wb.keep (h:Wb S col w b cs) (hk:Zl col w col' w'):Wb S col' w' b cs:=by
 obtain ⟨h1,h2⟩:=hk b (Array.getElem?_eq_some_iff.1 h.2).1 h.1
 exact ⟨h1,h2.trans h.2⟩
theorem Wb.kp (h:Wb S col w b cs) (hk:Xe c col w col' w') (hc:c≠0:=by decide):Wb S col' w' b cs:=h.keep (hk.stay hc)
theorem Wb.gr (h:Wb S col w b cs) (hg:Zg col w col' w'):Wb S col' w' b cs:=h.kp (hg.keep 1) (by omega)
theorem Wb.atN (h:Wb S col w b cs):Vg w (.pointer (some ⟨b,0,none⟩)) cs:=⟨b,0,rfl,fun q v hq=>by
 have:cs.toArray[q]?=some v:=by simpa using hq
 simp [World.cell?,h.2,this]⟩
theorem Ze.fz {g:Nat} {cs:List Value} (h:Ze S c col w g cs.toArray):Wb S (Yi c col) w g cs:=⟨Z0k h.1,h.2⟩

def Za.fptr (S:TypeId) (r:Za α):Za (Option α):=
 ⟨1,by decide,fun col w cs x bs=>bs=[]∧((x=none∧cs=[.pointer none])∨∃ b ds y,x=some y∧cs=[.pointer (some ⟨b,0,none⟩)]∧Wb S col w b ds∧r.rd col w ds y []),
  fun ⟨_,h⟩=>by rcases h with ⟨_,h⟩ | ⟨b,ds,y,_,h,_⟩ <;> rw [h] <;> rfl,
  fun ⟨_,h⟩=>by rcases h with ⟨_,h⟩ | ⟨b,ds,y,_,h,_⟩ <;> rw [h] <;> simp [Value.oneCell'],
  fun ⟨h,_⟩=>by rw [h];simp,
  fun ⟨h0,h⟩ hk _=>⟨h0,by
   rcases h with h | ⟨b,ds,y,h1,h2,h3,h4⟩
   ·exact .inl h
   ·exact .inr ⟨b,ds,y,h1,h2,h3.keep hk,r.keep h4 hk fun _ hb=>by cases hb⟩⟩⟩
def Za.err (T S:TypeId) (r:Za α):Za (Option α):=
 ⟨1,by decide,fun col w cs x bs=>bs=[]∧((x=none∧cs=[.nilIface])∨∃ b ds y,x=some y∧cs=[.iface T (.pointer (some ⟨b,0,none⟩))]∧Wb S col w b ds∧r.rd col w ds y []),
  fun ⟨_,h⟩=>by rcases h with ⟨_,h⟩ | ⟨b,ds,y,_,h,_⟩ <;> rw [h] <;> rfl,
  fun ⟨_,h⟩=>by rcases h with ⟨_,h⟩ | ⟨b,ds,y,_,h,_⟩ <;> rw [h] <;> simp [Value.oneCell'],
  fun ⟨h,_⟩=>by rw [h];simp,
  fun ⟨h0,h⟩ hk _=>⟨h0,by
   rcases h with h | ⟨b,ds,y,h1,h2,h3,h4⟩
   ·exact .inl h
   ·exact .inr ⟨b,ds,y,h1,h2,h3.keep hk,r.keep h4 hk fun _ hb=>by cases hb⟩⟩⟩
theorem Zt8:Rd (Za.fptr S r) col w [.pointer none] none:=⟨rfl,.inl ⟨rfl,rfl⟩⟩
theorem Zie:Rd (Za.err T S r) col w [.nilIface] none:=⟨rfl,.inl ⟨rfl,rfl⟩⟩
theorem Wb.ptr {x:α} (h:Wb S col w b cs) (hr:r.rd col w cs x []):Rd (Za.fptr S r) col w [.pointer (some ⟨b,0,none⟩)] (some x):=⟨rfl,.inr ⟨b,cs,x,rfl,rfl,h,hr⟩⟩
theorem Wb.err {x:α} (h:Wb S col w b cs) (hr:r.rd col w cs x []):Rd (Za.err T S r) col w [.iface T (.pointer (some ⟨b,0,none⟩))] (some x):=⟨rfl,.inr ⟨b,cs,x,rfl,rfl,h,hr⟩⟩
theorem Rd.pS {v:Value} {x:α} (h:Rd (Za.fptr S r) col w [v] (some x)):∃ b ds,v= .pointer (some ⟨b,0,none⟩)∧Wb S col w b ds∧r.rd col w ds x []:=by
 rcases h.2 with ⟨h,_⟩ | ⟨b,ds,y,h1,h2,h3,h4⟩
 ·cases h
 ·cases h1;cases h2;exact ⟨b,ds,rfl,h3,h4⟩
theorem Rd.pN {v:Value} (h:Rd (Za.fptr S r) col w [v] none):v= .pointer none:=by
 rcases h.2 with ⟨_,h⟩ | ⟨b,ds,y,h1,_⟩
 ·cases h;rfl
 ·cases h1
theorem Rd.eS {v:Value} {x:α} (h:Rd (Za.err T S r) col w [v] (some x)):∃ b ds,v= .iface T (.pointer (some ⟨b,0,none⟩))∧Wb S col w b ds∧r.rd col w ds x []:=by
 rcases h.2 with ⟨h,_⟩ | ⟨b,ds,y,h1,h2,h3,h4⟩
 ·cases h
 ·cases h1;cases h2;exact ⟨b,ds,rfl,h3,h4⟩
theorem Rd.eN {v:Value} (h:Rd (Za.err T S r) col w [v] none):v= .nilIface:=by
 rcases h.2 with ⟨_,h⟩ | ⟨b,ds,y,h1,_⟩
 ·cases h;rfl
 ·cases h1
theorem Rd.up {v:Value} {x:α} (h:Rd (Za.fptr S r) col w [v] (some x)):Rd (Za.err T S r) col w [.iface T v] (some x):=by
 obtain ⟨b,ds,rfl,h1,h2⟩:=h.pS
 exact h1.err h2
end
/-! operations -/
section
variable {α:Type} {r:Za α} {P:Program} {f:Fr} {w W:World} {dst:Option Tmp} {t:Nat} {p:String} {af:Array Edge} {gd:Option (Nat×Bool)} {x y:Operand} {T S IT yt:TypeId} {col:Zd}
theorem Ztz {v:Value} {e:TypeId} (hT:P.underlying T=some (.pointer e)) (hx:ev f x=v):(execOp (ev f) ⟨dst,.makeInterface T x,t,p,af,gd⟩).run P w= .ok (.value (.iface T v)) w:=by
 simp [execOp,hx,Instr.makeInterface,run_underlying hT]
theorem Zz2 {v:Value} {ms:Array (String×TypeId)} {o:Option α} (hT:P.underlying IT=some (.interface ms)) (h:Rd (Za.err T S r) col w [v] o):(Op.equal IT v .nilIface).run P W= .ok (!o.isSome) W:=by
 unfold Op.equal;rw [show Op.maxDepth=9999+1 from rfl];unfold Op.equalIn
 cases o with
 | none=>rw [h.eN];simp [run_underlying hT]
 | some x=>obtain ⟨b,ds,rfl,_,_⟩:=h.eS;simp [run_underlying hT]
theorem Zt2 {v:Value} {ms:Array (String×TypeId)} {o:Option α} (h:Rd (Za.err T S r) col w [v] o) (hT:P.underlying IT=some (.interface ms)) (hx:ev f x=v):
  (execOp (ev f) ⟨dst,.binOp .neq IT x (.const .nilIface) IT,t,p,af,gd⟩).run P W= .ok (.value (.bool o.isSome)) W:=by
 have he:ev f (.const .nilIface)= .nilIface:=rfl
 have h1:=Zz2 (W:=W) hT h
 cases o with
 | none=>have:=h.eN;subst this;simp [execOp,he,hx,eqGuard,binOp,h1]
 | some y=>obtain ⟨b,ds,rfl,_,_⟩:=h.eS;simp [execOp,he,hx,eqGuard,binOp,h1]
theorem Zqu {v:Value} {e:TypeId} {o:Option α} (hT:P.underlying IT=some (.pointer e)) (h:Rd (Za.fptr S r) col w [v] o):(Op.equal IT v (.pointer none)).run P W= .ok (!o.isSome) W:=by
 unfold Op.equal;rw [show Op.maxDepth=9999+1 from rfl];unfold Op.equalIn
 cases o with
 | none=>rw [h.pN];simp [run_underlying hT]
 | some x=>obtain ⟨b,ds,rfl,_,_⟩:=h.pS;simp [run_underlying hT]
theorem Z2z {v:Value} {e:TypeId} {o:Option α} (h:Rd (Za.fptr S r) col w [v] o) (hT:P.underlying IT=some (.pointer e)) (hx:ev f x=v):
  (execOp (ev f) ⟨dst,.binOp .neq IT x (.const (.pointer none)) IT,t,p,af,gd⟩).run P W= .ok (.value (.bool o.isSome)) W:=by
 have he:ev f (.const (.pointer none))= .pointer none:=rfl
 have h1:=Zqu (W:=W) hT h
 cases o with
 | none=>have:=h.pN;subst this;simp [execOp,he,hx,eqGuard,binOp,h1]
 | some y=>obtain ⟨b,ds,rfl,_,_⟩:=h.pS;simp [execOp,he,hx,eqGuard,binOp,h1]
theorem Zfi {v:Value} {e:TypeId} {o:Option α} (h:Rd (Za.fptr S r) col w [v] o) (hT:P.underlying IT=some (.pointer e)) (hx:ev f x=v):
  (execOp (ev f) ⟨dst,.binOp .eql IT x (.const (.pointer none)) IT,t,p,af,gd⟩).run P W= .ok (.value (.bool (!o.isSome))) W:=by
 have he:ev f (.const (.pointer none))= .pointer none:=rfl
 have h1:=Zqu (W:=W) hT h
 cases o with
 | none=>have:=h.pN;subst this;simp [execOp,he,hx,eqGuard,binOp,h1]
 | some y=>obtain ⟨b,ds,rfl,_,_⟩:=h.pS;simp [execOp,he,hx,eqGuard,binOp,h1]
end
def Zdd (a b:ByteArray):Bool:=!(Op.bytesLess a.toList b.toList||a.toList==b.toList)
section
variable {P:Program} {f:Fr} {W:World} {dst:Option Tmp} {t:Nat} {p:String} {af:Array Edge} {gd:Option (Nat×Bool)} {x y:Operand} {T yt:TypeId}
theorem Z2s {a b:ByteArray} (hx:ev f x= .string a) (hy:ev f y= .string b):
  (execOp (ev f) ⟨dst,.binOp .gtr T x y yt,t,p,af,gd⟩).run P W= .ok (.value (.bool (Zdd a b))) W:=by
 simp [execOp,hx,hy,eqGuard,binOp,Op.stringOp,Zdd]
end
section
variable {P:Program} {m:Nat} {rd:Option Nat} {ops:Array Oper} {K:Fr→World→Prop} {rest:List Oper} {f:Fr} {w:World} {col:Zd} {d t S D e:Nat} {p:String} {af:Array Edge} {x:Operand}
theorem Zy8 (col:Zd) (w:World) (e:TypeId) (s:ByteArray) (hb:s.size≤maxLen):Zg col w (Xw col w 0) (Lib.bytesWorld w e s)∧Sl (Za.int .u8) (Xw col w 0) (Lib.bytesWorld w e s) (some ⟨w.heap.size,0,none⟩) (grownCap w s.size 0 e) (Wg s):=by
 refine ⟨⟨⟨rfl,rfl,rfl,by rw [Lib.bytesWorld_size];omega,fun k hk=>Lib.bytesWorld_at_old w e s k hk⟩,fun k hk=>by simp [Xw,hk]⟩,⟨by rw [Zc0];exact hb,by rw [Zc0];exact grownCap_ge w s.size 0 e⟩,.inr ⟨w.heap.size,0,(Wg s).map (Value.int .u8),rfl,by simp [Xw],Zlr _,fun q v hq=>?_⟩⟩
 rw [List.getElem?_map] at hq
 have hl:q<s.size:=by
  rcases Nat.lt_or_ge q s.size with h | h
  ·exact h
  ·rw [List.getElem?_eq_none (by rw [Zc0];exact h)] at hq;cases hq
 rw [Nat.zero_add,Lib.bytesWorld_cell w e s q hl,← hq]
 have h1:q<s.data.toList.length:=by rw [Array.length_toList];exact hl
 simp [Wg,List.getElem?_eq_getElem h1,List.getD]
theorem Z00 {s:ByteArray} (hS:P.underlying S=some .string) (hD:P.underlying D=some (.slice e)) (he:P.underlying e=some (.int .u8)) (hd:Nat.blt d m=true) (hx:ev f x= .string s) (hb:s.size≤maxLen)
  (k:∀ a cap w' col',Zg col w col' w'→Sl (Za.int .u8) col' w' a cap (Wg s)→Zp P m rd ops K rest (Zu f d (.slice a (Wg s).length cap)) w'):
  Zp P m rd ops K (⟨some d,.convert S D x,t,p,af,none⟩ :: rest) f w:=by
 obtain ⟨h1,h2⟩:=Zy8 col w e s hb
 have hr:=Lib.run_convert_string_bytes (P:=P) w S D e s hS hD he
 have hk:=k _ _ _ _ h1 h2
 rw [Zc0] at hk
 exact lv hd rfl (by simp only [execOp,hx];simp [hr]) hk
end
structure Gl (v:Value) (col:Zd) (w:World):Prop where
 c0:col 0=0
 c1:col 1=0
 cell:w.cell? ⟨0,0,none⟩=some v
 len:∃ m:Int,w.cell? ⟨1,0,none⟩=some (.int .i64 m)
section
variable {v:Value} {col col':Zd} {w w':World} {c:Nat} {p:Nat→Bool}
theorem Gl.keep (h:Gl v col w) (hk:Zl col w col' w'):Gl v col' w':=by
 obtain ⟨m,hm⟩:=h.len
 obtain ⟨h1,h2⟩:=hk 0 (World.block_lt_of_cell? w _ h.cell) h.c0
 obtain ⟨h3,h4⟩:=hk 1 (World.block_lt_of_cell? w _ hm) h.c1
 exact ⟨h1,h3,(World.cell?_of_block h2).trans h.cell,m,(World.cell?_of_block h4).trans hm⟩
theorem Gl.kp (h:Gl v col w) (hk:Xe c col w col' w') (hc:c≠0:=by decide):Gl v col' w':=h.keep (hk.stay hc)
theorem Gl.gr (h:Gl v col w) (hg:Zg col w col' w'):Gl v col' w':=h.kp (hg.keep 1) (by omega)
theorem Gl.kpp (h:Gl v col w) (hk:Zs p col w col' w') (h0:p 0=false:=by rfl):Gl v col' w':=h.keep (hk.stay h0)
theorem Gl.froz (c:Nat) (h:Gl v col w):Gl v (Yi c col) w:=h.keep (Zl.froz c)
theorem Gl.recol (c d:Nat) (hc:c≠0:=by decide) (h:Gl v col w):Gl v (Xh c d col) w:=h.keep (Zl.recol c d hc)
theorem Gl.itk {q:Nat→Bool} (h:Gl v col w) (_:w.heap.size≤w'.heap.size) (hk:∀ k,k<w.heap.size→q (col k)=true→col' k=col k∧w'.heap[k]?=w.heap[k]?) (hq:q 0=true):Gl v col' w':=
 h.keep fun k hlt h0=>by
  obtain ⟨h1,h2⟩:=hk k hlt (by rw [h0];exact hq)
  exact ⟨h1.trans h0,h2⟩
theorem St.finGl {w0 w':World} {col':Zd} (h:St w0 (Zi col) col' w') {g:Nat→Nat} (hg:g 0=0) (hs:Gl v col' w'):Gl v (Vv w0.heap.size col col' g) w':=hs.keep (h.finStay hg)
end
end Go.Proofs.YtdpdogdkolblnaaGreatDoor
