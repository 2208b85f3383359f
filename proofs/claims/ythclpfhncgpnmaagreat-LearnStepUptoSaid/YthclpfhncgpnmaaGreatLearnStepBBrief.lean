/-
  Shorter words for steps: what is plain from the code alone is gone over by itself (go), a branch takes the model's branch with it. Over any program.
-/
import Derived.Test.YthclpfhncgpnmaaGreatLearnStepBFloat
namespace Go.Proofs.YthclpfhncgpnmaaGreat
open Go Go.RowKit
open Go.IntKind (i8 i16 i32 i64 u8 u16 u32 u64)

section
variable {P:Program} {m:Nat} {rd:Option Nat} {N R:Fr→World→Prop} {E:Nat→Fr→World→Prop} {f:Fr} {w:World}
theorem Zm {α:Type} {c:Operand} {x y:Code} {u v:Option α} {r:α} {b:Bool} (hm:(if b=true then u else v)=some r) (ht:b=true→u=some r→Wp P m rd x N R E f w) (hf:b=false→v=some r→Wp P m rd y N R E f w) (hb:ev f c= .bool b:=by rfl):Wp P m rd (.cond c x y) N R E f w:=
 Zuq b hb (fun h=>ht h (by rw [if_pos h] at hm;exact hm)) (fun h=>hf h (by rw [if_neg (Z95 h)] at hm;exact hm))
theorem Ye {α:Type} {G:Prop} {u v:Option α} {r:α} {b:Bool} (hm:(if b=true then u else v)=some r) (ht:b=true→u=some r→G) (hf:b=false→v=some r→G):G:=by
 cases b
 ·exact hf rfl hm
 ·exact ht rfl hm
end
def Zd5:List Oper→Nat→Option Nat
 | [],_=>none
 | o :: _,0=>o.dst
 | _ :: l,j+1=>Zd5 l j
theorem Zws:∀ {l:List Oper} {j:Nat},Zd5 l j=(l[j]?).bind (·.dst)
 | [],_=>rfl
 | _ :: _,0=>rfl
 | _ :: l,j+1=>by rw [Zd5,Zws,List.getElem?_cons_succ]
theorem Zo1 {ops:Array Oper} {j d:Nat} (h:Zd5 ops.toList j=some d):(ops[j]?).bind (·.dst)=some d:=by rw [Zws,Array.getElem?_toList] at h;exact h
section
variable {P:Program} {m:Nat} {rd:Option Nat} {f:Fr} {w:World} {ops:Array Oper} {K:Fr→World→Prop} {rest:List Oper} {d t:Nat} {p:String} {af:Array Edge}
theorem Zi {g:FuncId} {args:Array Value} {C:Ending→World→Prop} {op:Op} (hc:Calls P g args w C) (k:∀ e w',C e w'→∃ v,e= .returned v∧Zy P m rd ops K rest (Z8 f d v) w')
  (hr:(execOp (ev f) ⟨some d,op,t,p,af,none⟩).run P w= .ok (.enter g args) w:=by first | ((with_reducible apply Ztr) <;> (intros;exact rfl)) | ((with_reducible apply Tj) <;> (intros;exact rfl)) | ((with_reducible apply Zqp) <;> (intros;exact rfl)) | ((with_reducible apply Zfu) <;> (intros;exact rfl)) | ((with_reducible apply r_call4) <;> (intros;exact rfl)) | ((with_reducible apply r_call5) <;> (intros;exact rfl)))
  (hd:Nat.blt d m=true:=by rfl) (hn:W6 op=true:=by rfl):Zy P m rd ops K (⟨some d,op,t,p,af,none⟩ :: rest) f w:=lc hd hn hr hc k
theorem lP1 {op:Op} {j d':Nat} {want b:Bool} (h1:Zd5 ops.toList j=some d') (h3:f d'= .bool b) (hb:(b==want)=false)
  (hd:Nat.blt d m=true) (h2:Nat.blt d' m=true) (k:Zy P m rd ops K rest (Z8 f d undef) w):Zy P m rd ops K (⟨some d,op,t,p,af,some (j,want)⟩ :: rest) f w:=lp d' hd (Zo1 h1) h2 h3 hb k
theorem lG1 {op:Op} {dst:Option Nat} {j d':Nat} {want b:Bool} (h1:Zd5 ops.toList j=some d') (h3:f d'= .bool b) (hb:(b==want)=true)
  (h2:Nat.blt d' m=true) (k:Zy P m rd ops K (⟨dst,op,t,p,af,none⟩ :: rest) f w):Zy P m rd ops K (⟨dst,op,t,p,af,some (j,want)⟩ :: rest) f w:=lg d' (Zo1 h1) h2 h3 hb k
end
section
variable {P:Program} {m:Nat} {rd:Option Nat} {f:Fr} {w:World} {ops:Array Oper} {K:Fr→World→Prop} {rest:List Oper} {d t:Nat} {p:String} {af:Array Edge} {op:Op}
theorem lVV {v:Value} (hr:(execOp (ev f) ⟨some d,op,t,p,af,none⟩).run P w= .ok (.value v) w) (hd:Nat.blt d m=true) (hn:W6 op=true) (k:Zy P m rd ops K rest (Z8 f d v) w):Zy P m rd ops K (⟨some d,op,t,p,af,none⟩ :: rest) f w:=lV v hr k hd hn
end
section
variable {P:Program} {m:Nat} {f:Fr} {ops:Array Oper} {C:World→Prop} {K:Fr→Prop} {rest:List Oper} {d t:Nat} {p:String} {af:Array Edge} {op:Op}
theorem qP1 {j d':Nat} {want b:Bool} (h1:Zd5 ops.toList j=some d') (h3:f d'= .bool b) (hb:(b==want)=false)
  (hd:Nat.blt d m=true) (h2:Nat.blt d' m=true) (k:W9 P m ops C K rest (Z8 f d undef)):W9 P m ops C K (⟨some d,op,t,p,af,some (j,want)⟩ :: rest) f:=qp d' hd (Zo1 h1) h2 h3 hb k
theorem qG1 {dst:Option Nat} {j d':Nat} {want b:Bool} (h1:Zd5 ops.toList j=some d') (h3:f d'= .bool b) (hb:(b==want)=true)
  (h2:Nat.blt d' m=true) (k:W9 P m ops C K (⟨dst,op,t,p,af,none⟩ :: rest) f):W9 P m ops C K (⟨dst,op,t,p,af,some (j,want)⟩ :: rest) f:=qg d' (Zo1 h1) h2 h3 hb k
theorem qVV {v:Value} (hr:∀ w,(execOp (ev f) ⟨some d,op,t,p,af,none⟩).run P w= .ok (.value v) w) (hd:Nat.blt d m=true) (k:W9 P m ops C K rest (Z8 f d v)):W9 P m ops C K (⟨some d,op,t,p,af,none⟩ :: rest) f:=qv hd (fun w _=>hr w) k
end
section
variable {P:Program} {m:Nat} {rd:Option Nat} {α:Type} {r:Za α} {col:Ze} {w:World} {f:Fr} {ops:Array Oper} {K:Fr→World→Prop} {rest:List Oper} {d t e:Nat} {p:String} {af:Array Edge} {x y:Operand} {xs ys:List α}
theorem Z11 {k:IntKind}:∀ xs:List Int,Rows (Za.int k) col w ((xs.map (Value.int k)).map (·.cells.toList)).flatten xs []
 | []=>⟨rfl,rfl⟩
 | x :: xs=>Rows.consF (cs:=[.int k x]) ⟨rfl,rfl⟩ (Z11 xs)
theorem V5 {T n bytes:Nat} {k:IntKind} {parts:Array (Nat×Operand)} (xs:List Int) (c:Nat)
  (kk:∀ a' w' col',Zj col w col' w'→Zb (Za.int k) e c col' w' a' xs.length xs→Zy P m rd ops K rest (Z8 f d (.slice a' xs.length xs.length)) w')
  (hT:P.underlying T=some (.slice e):=by exact rfl) (he:Wt P e 1 bytes:=by exact ⟨_,_,rfl,rfl,rfl,rfl,rfl⟩) (hp:(List.map (fun x=>(x.fst,ev f x.snd)) parts.toList)=(List.range' 0 xs.length).zip (xs.map (Value.int k)):=by exact rfl)
  (hn:xs.length=n:=by exact rfl) (h24:Nat.ble (n * 1) 16777216=true:=by exact rfl) (h0:Nat.blt 0 n=true:=by exact rfl) (hd:Nat.blt d m=true:=by exact rfl):
  Zy P m rd ops K (⟨some d,.buildSlice T n parts,t,p,af,none⟩ :: rest) f w:=
 Zxz (r:=Za.int k) (xs.map (Value.int k)) c hd hT he rfl hn (by rw [List.length_map];exact hn) h24 h0 (by rw [List.length_map];exact hp) (fun v hv=>by obtain ⟨_,_,rfl⟩:=List.mem_map.1 hv;rfl) (.ofF (Z11 xs)) kk
theorem U6 {T n sz bytes:Nat} {parts:Array (Nat×Operand)} (vs:List Value) (c:Nat) (hr:W5 r c col w (vs.map (·.cells.toList)).flatten xs)
  (kk:∀ a' w' col',Zj col w col' w'→Zb r e c col' w' a' xs.length xs→Zy P m rd ops K rest (Z8 f d (.slice a' xs.length xs.length)) w')
  (hT:P.underlying T=some (.slice e):=by exact rfl) (he:Wt P e sz bytes:=by exact ⟨_,_,rfl,rfl,rfl,rfl,rfl⟩) (hsz:r.sz=sz:=by exact rfl)
  (hn:xs.length=n:=by exact rfl) (hvn:vs.length=n:=by exact rfl) (h24:Nat.ble (n * sz) 16777216=true:=by exact rfl) (h0:Nat.blt 0 n=true:=by exact rfl) (hp:(List.map (fun x=>(x.fst,ev f x.snd)) parts.toList)=(List.range' 0 vs.length).zip vs:=by exact rfl) (hvs:vs.all (fun v=>Nat.beq v.cells.size sz)=true:=by exact rfl)
  (hd:Nat.blt d m=true:=by exact rfl):Zy P m rd ops K (⟨some d,.buildSlice T n parts,t,p,af,none⟩ :: rest) f w:=
 Zxz vs c hd hT he hsz hn hvn h24 h0 hp (fun v hv=>Nat.eq_of_beq_eq_true (List.all_eq_true.1 hvs v hv)) hr kk
theorem Wy {T c c2 cap cap2 sz bytes:Nat} {a a2:Option Addr} (h:Zb r e c col w a cap xs) (h2:Zcd r c c2 col w a2 ys) (hb:(xs.length+ys.length) * bytes≤140737488355328∧xs.length+ys.length≤maxLen)
  (k:∀ a' cap' w' col',Zu (p2 c c2) col w col' w'→Zb r e c col' w' a' cap' (xs++ys)→Zy P m rd ops K rest (Z8 f d (.slice a' (xs++ys).length cap')) w')
  (hT:P.underlying T=some (.slice e):=by exact rfl) (he:Wt P e sz bytes:=by exact ⟨_,_,rfl,rfl,rfl,rfl,rfl⟩) (hsz:r.sz=sz:=by exact rfl)
  (hx:ev f x= .slice a xs.length cap:=by exact rfl) (hy:ev f y= .slice a2 ys.length cap2:=by exact rfl) (hd:Nat.blt d m=true:=by exact rfl) (hc:c≠0:=by decide):
  Zy P m rd ops K (⟨some d,.call { callee:=.builtin .append,args:=#[x,y],argTypes:=#[T,T] },t,p,af,none⟩ :: rest) f w:=
 Z85 h h2 hd hT he hsz hx hy hb.1 hb.2 hc k
theorem Wb {T c cap:Nat} {k:IntKind} {a:Option Addr} {j:Int} {x0 x1:Int} {xs:List Int} (h:Zb (Za.int k) e c col w a cap xs) (hj:Zk xs j=some x0)
  (kk:∀ w',Yf c col w col w'→Yq w w'→Zb (Za.int k) e c col w' a cap (xs.set j.toNat x1)→Zy P m rd ops K rest f w')
  (hy:ev f y= .int k x1:=by exact rfl) (hx:ev f x=Yj a (j.toNat * 1):=by exact rfl) (hs:∀ w,(sizeOf T).run P w= .ok 1 w:=by intros;exact rfl) (hc:c≠0:=by decide):
  Zy P m rd ops K (⟨none,.store T x y,t,p,af,none⟩ :: rest) f w:=Zo8 h hj rfl hs ⟨rfl,rfl⟩ hx hy hc kk
theorem lI {T c sz:Nat} {k:IntKind} {a:Option Addr} {j:Int} {x0:α} (q:Zk xs j=some x0) (ha:∃ b o,a=some ⟨b,o,none⟩) (kk:Zy P m rd ops K rest (Z8 f d (Yj a (j.toNat * sz))) w)
  (hT:P.underlying T=some (.slice e):=by exact rfl) (hs:∀ w,(sizeOf e).run P w= .ok sz w:=by intros;exact rfl) (hx:ev f x= .slice a xs.length c:=by exact rfl) (hy:ev f y= .int k j:=by exact rfl) (hd:Nat.blt d m=true:=by exact rfl):
  Zy P m rd ops K (⟨some d,.indexAddr T x y,t,p,af,none⟩ :: rest) f w:=lV _ (X8 hT hs hx hy (Z0 q).1 (Z0 q).2.1 ha) kk hd
theorem lW {T:Nat} {ptr v:Value} (h:T8 w ptr v) (kk:Zy P m rd ops K rest (Z8 f d v) w) (ha:∀ w,(isAgg T).run P w= .ok false w:=by intros;exact rfl) (hx:ev f x=ptr:=by exact rfl) (hd:Nat.blt d m=true:=by exact rfl):
  Zy P m rd ops K (⟨some d,.load T x,t,p,af,none⟩ :: rest) f w:=lV _ (Sn ha hx h) kk hd
theorem Z6 {T g n c:Nat} {cs cs':Array Value} (h:Zd e c col w g cs)
  (k:∀ w',Yf c col w col w'→Yq w w'→Zd e c col w' g cs'→Zy P m rd ops K rest f w') (hy:ev f y= .agg cs':=by exact rfl) (hs:∀ w,(sizeOf T).run P w= .ok n w:=by intros;exact rfl) (hx:ev f x= .pointer (some ⟨g,0,none⟩):=by exact rfl) (hn:cs.size=n:=by exact rfl) (hv:cs'.size=n:=by exact rfl) (h1:cs'.toList.all (·.oneCell')=true:=by exact rfl):
  Zy P m rd ops K (⟨none,.store T x y,t,p,af,none⟩ :: rest) f w:=Z86 cs' h hs k hx hy hn hv h1
theorem Z9 {T T2 i sz c e d2 t2 off:Nat} {g:Nat} {p2:String} {af2:Array Edge} {fs:Array Field} {fd:Field} {cs:Array Value} {v:Value} (h:Zd e c col w g cs)
  (k:Zy P m rd ops K rest (Z8 (Z8 f d (.pointer ((some (⟨g,0,none⟩:Addr)).map (·.add off)))) d2 v) w)
  (hT:P.underlying T=some (.struct fs):=by exact rfl) (hf:fs[i]?=some fd:=by exact rfl) (ho:fd.offset=off:=by exact rfl) (hs:∀ w,(sizeOf fd.type).run P w= .ok sz w:=by intros;exact rfl)
  (ha:∀ w,(isAgg T2).run P w= .ok false w:=by intros;exact rfl) (hv:cs.toList[off]?=some v:=by exact rfl) (h0:sz≠0:=by decide) (hx:ev f x= .pointer (some ⟨g,0,none⟩):=by exact rfl) (hd:Nat.blt d m=true:=by exact rfl)
  (hy:ev (Z8 f d (.pointer ((some (⟨g,0,none⟩:Addr)).map (·.add off)))) y= .pointer ((some (⟨g,0,none⟩:Addr)).map (·.add off)):=by exact rfl) (hd2:Nat.blt d2 m=true:=by exact rfl):
  Zy P m rd ops K (⟨some d,.fieldAddr T x i,t,p,af,none⟩ :: ⟨some d2,.load T2 y,t2,p2,af2,none⟩ :: rest) f w:=lFL g off hT hf hs ha h hv k h0 ho hx hd hy hd2
end
section
variable {P:Program} {m:Nat} {f:Fr} {ops:Array Oper} {C:World→Prop} {K:Fr→Prop} {α:Type} {xs:List α} {rest:List Oper} {d t e:Nat} {p:String} {af:Array Edge} {x y:Operand}
theorem qI {T c sz:Nat} {k:IntKind} {a:Option Addr} {j:Int} {x0:α} (q:Zk xs j=some x0) (ha:∃ b o,a=some ⟨b,o,none⟩) (kk:W9 P m ops C K rest (Z8 f d (Yj a (j.toNat * sz))))
  (hT:P.underlying T=some (.slice e):=by exact rfl) (hs:∀ w,(sizeOf e).run P w= .ok sz w:=by intros;exact rfl) (hx:ev f x= .slice a xs.length c:=by exact rfl) (hy:ev f y= .int k j:=by exact rfl) (hd:Nat.blt d m=true:=by exact rfl):
  W9 P m ops C K (⟨some d,.indexAddr T x y,t,p,af,none⟩ :: rest) f:=qv hd (fun _ _=>X8 hT hs hx hy (Z0 q).1 (Z0 q).2.1 ha) kk
theorem qW {T:Nat} {ptr v:Value} (h:∀ w,C w→T8 w ptr v) (kk:W9 P m ops C K rest (Z8 f d v)) (ha:∀ w,(isAgg T).run P w= .ok false w:=by intros;exact rfl) (hx:ev f x=ptr:=by exact rfl) (hd:Nat.blt d m=true:=by exact rfl):
  W9 P m ops C K (⟨some d,.load T x,t,p,af,none⟩ :: rest) f:=qv hd (fun w hC=>Sn ha hx (h w hC)) kk
end
def Zn1:List Nat→Fr→Fr→Fr
 | [],_,g=>g
 | d :: ds,f,g=>Z8 (Zn1 ds f g) d (f d)
def Zrd:List Nat→List Value→Fr→Fr
 | d :: ds,v :: vs,f=>Z8 (Zrd ds vs f) d v
 | _,_,f=>f
theorem Yz {a b:Value} {l k:List Value} (h:a=b) (hk:l=k):a :: l=b :: k:=by rw [h,hk]
theorem Zuo {f g:Fr}:∀ {ds:List Nat},ds.map g=ds.map f→Zn1 ds f g=g
 | [],_=>rfl
 | d :: ds,h=>by
  simp only [List.map_cons,List.cons.injEq] at h
  rw [Zn1,Zuo h.2,Zlg h.1]
theorem Z4d {f:Fr}:∀ {ds:List Nat} {vs:List Value},ds.map f=vs→Zrd ds vs f=f
 | [],_,_=>rfl
 | d :: ds,[],h=>by cases h
 | d :: ds,v :: vs,h=>by
  simp only [List.map_cons,List.cons.injEq] at h
  rw [Zrd,Z4d h.2,Zlg h.1]
/-! slots that stay,gone through step by step -/
section
variable {P:Program} {m:Nat} {rd:Option Nat} {N R:Fr→World→Prop} {E:Nat→Fr→World→Prop} {f:Fr} {w:World} {c:Code}
theorem Wp.lL (ds:List Nat) {vs:List Value} (h:ds.map f=vs) (k:Wp P m rd c N R E (Zrd ds vs f) w):Wp P m rd c N R E f w:=by rwa [Z4d h] at k
theorem Zt (ds:List Nat) (I:Nat→Fr→World→Prop) (n:Nat) (h0:I n f w)
  (round:∀ n g w,I n g w→Wp P m rd c (fun f' w'=>∃ k,k<n∧ds.map f'=ds.map f∧I k f' w') R E (Zn1 ds f g) w):Wp P m rd (.loop c) N R E f w:=
 Zur (fun n g w=>ds.map g=ds.map f∧I n g w) n ⟨rfl,h0⟩ fun n g w h=>by
  have:=round n g w h.2
  rwa [Zuo h.1] at this
theorem Wp.cutK (ds:List Nat) (J:Fr→World→Prop) (h:∀ g w,J g w→N (Zn1 ds f g) w) (hc:Wp P m rd c (fun f' w'=>ds.map f'=ds.map f∧J f' w') R E f w):Wp P m rd c N R E f w:=
 hc.cut (fun g w=>ds.map g=ds.map f∧J g w) fun g w hj=>by
  have:=h g w hj.2
  rwa [Zuo hj.1] at this
end
section
variable {P:Program} {m:Nat} {rd:Option Nat} {f:Fr} {w:World} {ops:Array Oper} {K:Fr→World→Prop} {rest:List Oper} {d t T j sz off:Nat} {p:String} {af:Array Edge} {x:Operand} {fs:Array Field} {fd:Field} {a:Option Addr}
theorem Xy (ha:∃ b o,a=some ⟨b,o,none⟩) (k:Zy P m rd ops K rest (Z8 f d (.pointer (a.map (·.add off)))) w) (hx:ev f x= .pointer a:=by exact rfl) (hT:P.underlying T=some (.struct fs):=by exact rfl) (hf:fs[j]?=some fd:=by exact rfl) (ho:fd.offset=off:=by exact rfl) (hs:∀ w,(sizeOf fd.type).run P w= .ok sz w:=by intros;exact rfl) (h0:sz≠0:=by decide) (hd:Nat.blt d m=true:=by exact rfl):
  Zy P m rd ops K (⟨some d,.fieldAddr T x j,t,p,af,none⟩ :: rest) f w:=lV _ (Uc hT hf hs h0 ho hx ha) k hd
end
section
variable {P:Program} {m:Nat} {f:Fr} {ops:Array Oper} {C:World→Prop} {K:Fr→Prop} {rest:List Oper} {d t T j sz off:Nat} {p:String} {af:Array Edge} {x:Operand} {fs:Array Field} {fd:Field} {a:Option Addr}
theorem qF (ha:∃ b o,a=some ⟨b,o,none⟩) (k:W9 P m ops C K rest (Z8 f d (.pointer (a.map (·.add off))))) (hx:ev f x= .pointer a:=by exact rfl) (hT:P.underlying T=some (.struct fs):=by exact rfl) (hf:fs[j]?=some fd:=by exact rfl) (ho:fd.offset=off:=by exact rfl) (hs:∀ w,(sizeOf fd.type).run P w= .ok sz w:=by intros;exact rfl) (h0:sz≠0:=by decide) (hd:Nat.blt d m=true:=by exact rfl):
  W9 P m ops C K (⟨some d,.fieldAddr T x j,t,p,af,none⟩ :: rest) f:=qv hd (fun _ _=>Uc hT hf hs h0 ho hx ha) k
end
section
variable {P:Program} {m:Nat} {rd:Option Nat} {l:List Oper} {N R:Fr→World→Prop} {E:Nat→Fr→World→Prop} {π:List (Nat×Nat)} {C:World→Prop} {f:Fr} {d t T i j sz off:Nat} {p:String} {af:Array Edge} {x:Operand} {fs:Array Field} {fd:Field} {a:Option Addr} {ptr v:Value}
theorem xF (ha:∃ b o,a=some ⟨b,o,none⟩) (k:V3 P m rd l N R E π C (Z8 f d (.pointer (a.map (·.add off))))) (hl:l[i]?=some ⟨some d,.fieldAddr T x j,t,p,af,none⟩:=by exact rfl) (hx:ev f x= .pointer a:=by exact rfl) (hT:P.underlying T=some (.struct fs):=by exact rfl) (hf:fs[j]?=some fd:=by exact rfl) (ho:fd.offset=off:=by exact rfl) (hs:∀ w,(sizeOf fd.type).run P w= .ok sz w:=by intros;exact rfl) (h0:sz≠0:=by decide) (hd:Nat.blt d m=true:=by exact rfl):
  V3 P m rd l N R E ((i,1) :: π) C f:=xu hl hd (fun _=>Uc hT hf hs h0 ho hx ha) k
theorem xW (h:∀ w,C w→T8 w ptr v) (k:V3 P m rd l N R E π C (Z8 f d v)) (hl:l[i]?=some ⟨some d,.load T x,t,p,af,none⟩:=by exact rfl) (ha:∀ w,(isAgg T).run P w= .ok false w:=by intros;exact rfl) (hx:ev f x=ptr:=by exact rfl) (hd:Nat.blt d m=true:=by exact rfl):
  V3 P m rd l N R E ((i,0) :: π) C f:=xv hl hd (fun w hC=>Sn ha hx (h w hC)) k
end
theorem xk {D:Prop} {A:(World→Prop)→Prop} {B:(World→Prop)→Prop} {w:World} (col:Ze) (k:B (fun w'=>Zj col w col w')) (h:¬ D:=by decide):∃ C':World→Prop,C' w∧(D→A C')∧B C':=
 ⟨_,Zj.refl col w,fun hd=>absurd hd h,k⟩
theorem Xo {D:Prop} {B:(World→Prop)→Prop} {c1 c2 c3:Ze} {w1 w2 w3:World} (col:Ze) (hC:Zj c1 w1 c1 w2) (hg:Zj c2 w2 c3 w3) (k:B (fun w'=>Zj col w3 col w')):∃ C':World→Prop,C' w3∧(D→∀ w,C' w→Zj c1 w1 c1 w)∧B C':=
 ⟨_,Zj.refl col w3,fun _ _ h=>V4 hC hg h,k⟩
def cm:List (Nat×Nat)→Nat→Nat
 | [],_=>0
 | (a,b) :: l,n=>bif Nat.beq n a then b else cm l n
section
variable {α:Type} {r:Za α} {xs:List α} {e i c cap:Nat} {a:Option Addr} {col col':Ze} {w0 w':World} {g:Nat→Nat} {l:List Nat}
theorem St.fo (h:St w0 (Zh col) col' w') (ho:Zb r e i col' w' a cap xs) (hg:g 0=0:=by exact rfl) (h0:i≠0:=by decide) (h9:i≠999:=by decide) (hc:g i=c:=by exact rfl):Zb r e c (U4 w0.heap.size col col' g) w' a cap xs:=h.finOwn hg ho h0 h9 hc
theorem St.fs (h:St w0 (Zh col) col' w') (hs:Sl r col' w' a cap xs) (hg:g 0=0:=by exact rfl):Sl r (U4 w0.heap.size col col' g) w' a cap xs:=h.finSl hg hs
theorem St.foL (h:St w0 (Xe l col) col' w') (ho:Zb r e i col' w' a cap xs) (hg:g 0=0:=by exact rfl) (h0:i≠0:=by decide) (h9:i≠999:=by decide) (hc:g i=c:=by exact rfl):Zb r e c (Sw w0.heap.size l col col' g) w' a cap xs:=h.finOwnL hg ho h0 h9 hc
end
section
variable {P:Program} {m:Nat} {w:World} {fn:Func} {f:Fr}
theorem ra {s0 t0 n0:Nat} {p0:Value} {cs0:List Value} (h0:Ue w p0 cs0) (hr:fn.results=#[.cell s0 t0]:=by exact rfl) (hlt0:Nat.blt s0 1000000=true:=by exact rfl) (ha0:∀ w,(isAgg t0).run P w= .ok true w:=by intros;exact rfl) (hs0:∀ w,(sizeOf t0).run P w= .ok n0 w:=by intros;exact rfl) (hp0:f s0=p0:=by exact rfl) (hn0:cs0.length=n0:=by exact rfl):
  ∀ a:Act,Y9 m a f→(results fn a.tmps).run P w= .ok (.agg cs0.toArray) w:=Xbg hr hlt0 ha0 hs0 hp0 hn0 h0
theorem Vm {s0 t0 n0 s1:Nat} {p0 v1:Value} {cs0:List Value} (h0:Ue w p0 cs0) (hr:fn.results=#[.cell s0 t0,.tmp s1]:=by exact rfl) (hlt0:Nat.blt s0 1000000=true:=by exact rfl) (ha0:∀ w,(isAgg t0).run P w= .ok true w:=by intros;exact rfl) (hs0:∀ w,(sizeOf t0).run P w= .ok n0 w:=by intros;exact rfl) (hp0:f s0=p0:=by exact rfl) (hn0:cs0.length=n0:=by exact rfl) (hlt1:Nat.blt s1 1000000=true:=by exact rfl) (hp1:f s1=v1:=by exact rfl):
  ∀ a:Act,Y9 m a f→(results fn a.tmps).run P w= .ok (.tuple #[.agg cs0.toArray,v1]) w:=Xbh hr hlt0 ha0 hs0 hp0 hn0 h0 hlt1 hp1
end
theorem vI {a:Value} {k:IntKind} {n:Int} (h:a= .int k n):a= .int k n:=h
theorem vB {a:Value} {b:Bool} (h:a= .bool b):a= .bool b:=h
theorem vS {a:Value} {b:Option Addr} {n c:Nat} (h:a= .slice b n c):a= .slice b n c:=h
theorem vP {a:Value} {b:Option Addr} (h:a= .pointer b):a= .pointer b:=h
theorem vT {a:Value} {b:ByteArray} (h:a= .string b):a= .string b:=h
theorem vM {a:Value} {b:Option Nat} (h:a= .map b):a= .map b:=h
structure Rest (B:Prop):Prop where
 q:B
theorem go {A B:Prop} (q:B) (h:Rest B→A:=by
  intro q
  (repeat (first
    | (with_reducible refine Zx ?_)
    | (with_reducible refine W0 ?_)
    | (with_reducible refine Zl ?_)
    | ((with_reducible apply lVV)
       · first
        | ((with_reducible apply Vl)
           first | exact vI rfl | exact vS rfl | exact vP rfl | exact vB rfl | exact vT rfl | exact vG rfl | exact vM rfl)
        | ((with_reducible apply T0)
           first | exact vI rfl | exact vS rfl | exact vP rfl | exact vB rfl | exact vT rfl | exact vG rfl | exact vM rfl)
        | ((with_reducible apply Zqr) <;> exact rfl)
        | ((with_reducible apply S8) <;> exact rfl)
        | ((with_reducible apply Z0j) <;> exact rfl)
        | ((with_reducible apply Z0s) <;> exact rfl)
        | ((with_reducible apply Z0o) <;> exact rfl)
        | ((with_reducible apply Zqq) <;> exact rfl)
        | ((with_reducible apply Z0n) <;> exact rfl)
        | ((with_reducible apply Zqv) <;> exact rfl)
        | ((with_reducible apply Zic) <;> exact rfl)
        | ((with_reducible apply Zqo) <;> exact rfl)
        | ((with_reducible apply Ztt) <;> exact rfl)
        | ((with_reducible apply Q8) <;> exact rfl)
        | ((with_reducible apply r_lenS) <;> exact rfl)
        | ((with_reducible apply Zns)
           · exact ⟨_,rfl⟩
           · exact rfl
           · exact rfl)
        | ((with_reducible apply Zts) <;> exact rfl)
        | ((with_reducible apply Z0r) <;> exact rfl)
        | ((with_reducible apply Z0k) <;> exact rfl)
        | ((with_reducible apply Zlc) <;> exact rfl)
        | ((with_reducible apply Z0l) <;> exact rfl)
        | ((with_reducible apply Z0t) <;> exact rfl)
       · exact rfl
       · exact rfl)
    | ((with_reducible apply qVV)
       · intro _
         first
          | ((with_reducible apply Vl)
             first | exact vI rfl | exact vS rfl | exact vP rfl | exact vB rfl | exact vT rfl | exact vG rfl | exact vM rfl)
          | ((with_reducible apply T0)
             first | exact vI rfl | exact vS rfl | exact vP rfl | exact vB rfl | exact vT rfl | exact vG rfl | exact vM rfl)
          | ((with_reducible apply Zqr) <;> exact rfl)
          | ((with_reducible apply S8) <;> exact rfl)
          | ((with_reducible apply Z0j) <;> exact rfl)
          | ((with_reducible apply Z0s) <;> exact rfl)
          | ((with_reducible apply Z0o) <;> exact rfl)
          | ((with_reducible apply Zqq) <;> exact rfl)
          | ((with_reducible apply Z0n) <;> exact rfl)
          | ((with_reducible apply Zqv) <;> exact rfl)
          | ((with_reducible apply Zic) <;> exact rfl)
          | ((with_reducible apply Zqo) <;> exact rfl)
          | ((with_reducible apply Ztt) <;> exact rfl)
          | ((with_reducible apply Q8) <;> exact rfl)
          | ((with_reducible apply r_lenS) <;> exact rfl)
          | ((with_reducible apply Zns)
             · exact ⟨_,rfl⟩
             · exact rfl
             · exact rfl)
          | ((with_reducible apply Zts) <;> exact rfl)
          | ((with_reducible apply Z0r) <;> exact rfl)
          | ((with_reducible apply Z0k) <;> exact rfl)
          | ((with_reducible apply Zlc) <;> exact rfl)
          | ((with_reducible apply Z0l) <;> exact rfl)
          | ((with_reducible apply Z0t) <;> exact rfl)
       · exact rfl)
    | (with_reducible refine Zf1 ?_)
    | (with_reducible refine Xz ?_)
    | (with_reducible refine W1 ?_)
    | (with_reducible refine Zre (Zo7 ?_))
    | ((with_reducible apply lG1)
       · exact rfl
       · exact rfl
       · first | exact gq (by assumption) | exact gn (by assumption)
       · exact rfl)
    | ((with_reducible apply lP1)
       · exact rfl
       · exact rfl
       · first | exact gq (by assumption) | exact gn (by assumption)
       · exact rfl
       · exact rfl)
    | ((with_reducible apply qG1)
       · exact rfl
       · exact rfl
       · first | exact gq (by assumption) | exact gn (by assumption)
       · exact rfl)
    | ((with_reducible apply qP1)
       · exact rfl
       · exact rfl
       · first | exact gq (by assumption) | exact gn (by assumption)
       · exact rfl
       · exact rfl)))
  exact q.1):A:=h ⟨q⟩
end Go.Proofs.YthclpfhncgpnmaaGreat
