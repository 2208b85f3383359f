/-
  Shorter words for steps: what is plain from the code alone is gone over by itself (go), a branch takes the model's branch with it. Over any program.
-/
import Derived.Test.YtdpdogdkolblnaaGreatDoorQueryAskBFloat
namespace Go.Proofs.YtdpdogdkolblnaaGreatDoor
open Go Go.RowKit
open Go.IntKind (i8 i16 i32 i64 u8 u16 u32 u64)

section
variable {P:Program} {m:Nat} {rd:Option Nat} {N R:Fr→World→Prop} {E:Nat→Fr→World→Prop} {f:Fr} {w:World}
theorem Zm {α:Type} {c:Operand} {x y:Code} {u v:Option α} {r:α} {b:Bool} (hm:(if b=true then u else v)=some r) (ht:b=true→u=some r→Wp P m rd x N R E f w) (hf:b=false→v=some r→Wp P m rd y N R E f w) (hb:ev f c= .bool b:=by rfl):Wp P m rd (.cond c x y) N R E f w:=
 Zpa b hb (fun h=>ht h (by rw [if_pos h] at hm;exact hm)) (fun h=>hf h (by rw [if_neg (Z1z h)] at hm;exact hm))
theorem Z7 {α:Type} {G:Prop} {u v:Option α} {r:α} {b:Bool} (hm:(if b=true then u else v)=some r) (ht:b=true→u=some r→G) (hf:b=false→v=some r→G):G:=by
 cases b
 ·exact hf rfl hm
 ·exact ht rfl hm
end
def Zai:List Oper→Nat→Option Nat
 | [],_=>none
 | o :: _,0=>o.dst
 | _ :: l,j+1=>Zai l j
theorem Zqs:∀ {l:List Oper} {j:Nat},Zai l j=(l[j]?).bind (·.dst)
 | [],_=>rfl
 | _ :: _,0=>rfl
 | _ :: l,j+1=>by rw [Zai,Zqs,List.getElem?_cons_succ]
theorem Zi9 {ops:Array Oper} {j d:Nat} (h:Zai ops.toList j=some d):(ops[j]?).bind (·.dst)=some d:=by rw [Zqs,Array.getElem?_toList] at h;exact h
section
variable {P:Program} {m:Nat} {rd:Option Nat} {f:Fr} {w:World} {ops:Array Oper} {K:Fr→World→Prop} {rest:List Oper} {d t:Nat} {p:String} {af:Array Edge}
theorem Zh {g:FuncId} {args:Array Value} {C:Ending→World→Prop} {op:Op} (hc:Calls P g args w C) (k:∀ e w',C e w'→∃ v,e= .returned v∧Zp P m rd ops K rest (Zu f d v) w')
  (hr:(execOp (ev f) ⟨some d,op,t,p,af,none⟩).run P w= .ok (.enter g args) w:=by first | ((with_reducible apply Zoj) <;> (intros;exact rfl)) | ((with_reducible apply Zib) <;> (intros;exact rfl)) | ((with_reducible apply Z2p) <;> (intros;exact rfl)) | ((with_reducible apply Zia) <;> (intros;exact rfl)) | ((with_reducible apply r_call4) <;> (intros;exact rfl)) | ((with_reducible apply r_call5) <;> (intros;exact rfl)))
  (hd:Nat.blt d m=true:=by rfl) (hn:Wf op=true:=by rfl):Zp P m rd ops K (⟨some d,op,t,p,af,none⟩ :: rest) f w:=lc hd hn hr hc k
theorem lP1 {op:Op} {j d':Nat} {want b:Bool} (h1:Zai ops.toList j=some d') (h3:f d'= .bool b) (hb:(b==want)=false)
  (hd:Nat.blt d m=true) (h2:Nat.blt d' m=true) (k:Zp P m rd ops K rest (Zu f d undef) w):Zp P m rd ops K (⟨some d,op,t,p,af,some (j,want)⟩ :: rest) f w:=lp d' hd (Zi9 h1) h2 h3 hb k
theorem lG1 {op:Op} {dst:Option Nat} {j d':Nat} {want b:Bool} (h1:Zai ops.toList j=some d') (h3:f d'= .bool b) (hb:(b==want)=true)
  (h2:Nat.blt d' m=true) (k:Zp P m rd ops K (⟨dst,op,t,p,af,none⟩ :: rest) f w):Zp P m rd ops K (⟨dst,op,t,p,af,some (j,want)⟩ :: rest) f w:=lg d' (Zi9 h1) h2 h3 hb k
end
section
variable {P:Program} {m:Nat} {rd:Option Nat} {f:Fr} {w:World} {ops:Array Oper} {K:Fr→World→Prop} {rest:List Oper} {d t:Nat} {p:String} {af:Array Edge} {op:Op}
theorem lVV {v:Value} (hr:(execOp (ev f) ⟨some d,op,t,p,af,none⟩).run P w= .ok (.value v) w) (hd:Nat.blt d m=true) (hn:Wf op=true) (k:Zp P m rd ops K rest (Zu f d v) w):Zp P m rd ops K (⟨some d,op,t,p,af,none⟩ :: rest) f w:=lV v hr k hd hn
end
section
variable {P:Program} {m:Nat} {f:Fr} {ops:Array Oper} {C:World→Prop} {K:Fr→Prop} {rest:List Oper} {d t:Nat} {p:String} {af:Array Edge} {op:Op}
theorem qP1 {j d':Nat} {want b:Bool} (h1:Zai ops.toList j=some d') (h3:f d'= .bool b) (hb:(b==want)=false)
  (hd:Nat.blt d m=true) (h2:Nat.blt d' m=true) (k:Y9 P m ops C K rest (Zu f d undef)):Y9 P m ops C K (⟨some d,op,t,p,af,some (j,want)⟩ :: rest) f:=qp d' hd (Zi9 h1) h2 h3 hb k
theorem qG1 {dst:Option Nat} {j d':Nat} {want b:Bool} (h1:Zai ops.toList j=some d') (h3:f d'= .bool b) (hb:(b==want)=true)
  (h2:Nat.blt d' m=true) (k:Y9 P m ops C K (⟨dst,op,t,p,af,none⟩ :: rest) f):Y9 P m ops C K (⟨dst,op,t,p,af,some (j,want)⟩ :: rest) f:=qg d' (Zi9 h1) h2 h3 hb k
theorem qVV {v:Value} (hr:∀ w,(execOp (ev f) ⟨some d,op,t,p,af,none⟩).run P w= .ok (.value v) w) (hd:Nat.blt d m=true) (k:Y9 P m ops C K rest (Zu f d v)):Y9 P m ops C K (⟨some d,op,t,p,af,none⟩ :: rest) f:=qv hd (fun w _=>hr w) k
end
section
variable {P:Program} {m:Nat} {rd:Option Nat} {α:Type} {r:Za α} {col:Zd} {w:World} {f:Fr} {ops:Array Oper} {K:Fr→World→Prop} {rest:List Oper} {d t e:Nat} {p:String} {af:Array Edge} {x y:Operand} {xs ys:List α}
theorem Zus {k:IntKind}:∀ xs:List Int,Rows (Za.int k) col w ((xs.map (Value.int k)).map (·.cells.toList)).flatten xs []
 | []=>⟨rfl,rfl⟩
 | x :: xs=>Rows.consF (cs:=[.int k x]) ⟨rfl,rfl⟩ (Zus xs)
theorem Zuu:∀ xs:List ByteArray,Rows Za.str col w ((xs.map Value.string).map (·.cells.toList)).flatten xs []
 | []=>⟨rfl,rfl⟩
 | x :: xs=>Rows.consF (cs:=[.string x]) ⟨rfl,rfl⟩ (Zuu xs)
theorem U8 {T n bytes:Nat} {k:IntKind} {parts:Array (Nat×Operand)} (xs:List Int) (c:Nat)
  (kk:∀ a' w' col',Zg col w col' w'→Zc (Za.int k) e c col' w' a' xs.length xs→Zp P m rd ops K rest (Zu f d (.slice a' xs.length xs.length)) w')
  (hT:P.underlying T=some (.slice e):=by exact rfl) (he:Wa P e 1 bytes:=by exact ⟨_,_,rfl,rfl,rfl,rfl,rfl⟩) (hp:(List.map (fun x=>(x.fst,ev f x.snd)) parts.toList)=(List.range' 0 xs.length).zip (xs.map (Value.int k)):=by exact rfl)
  (hn:xs.length=n:=by exact rfl) (h24:Nat.ble (n * 1) 16777216=true:=by exact rfl) (h0:Nat.blt 0 n=true:=by exact rfl) (hd:Nat.blt d m=true:=by exact rfl):
  Zp P m rd ops K (⟨some d,.buildSlice T n parts,t,p,af,none⟩ :: rest) f w:=
 Zna (r:=Za.int k) (xs.map (Value.int k)) c hd hT he rfl hn (by rw [List.length_map];exact hn) h24 h0 (by rw [List.length_map];exact hp) (fun v hv=>by obtain ⟨_,_,rfl⟩:=List.mem_map.1 hv;rfl) (.ofF (Zus xs)) kk
theorem Ui {T n bytes:Nat} {parts:Array (Nat×Operand)} (xs:List ByteArray) (c:Nat)
  (kk:∀ a' w' col',Zg col w col' w'→Zc Za.str e c col' w' a' xs.length xs→Zp P m rd ops K rest (Zu f d (.slice a' xs.length xs.length)) w')
  (hT:P.underlying T=some (.slice e):=by exact rfl) (he:Wa P e 1 bytes:=by exact ⟨_,_,rfl,rfl,rfl,rfl,rfl⟩) (hp:(List.map (fun x=>(x.fst,ev f x.snd)) parts.toList)=(List.range' 0 xs.length).zip (xs.map Value.string):=by exact rfl)
  (hn:xs.length=n:=by exact rfl) (h24:Nat.ble (n * 1) 16777216=true:=by exact rfl) (h0:Nat.blt 0 n=true:=by exact rfl) (hd:Nat.blt d m=true:=by exact rfl):
  Zp P m rd ops K (⟨some d,.buildSlice T n parts,t,p,af,none⟩ :: rest) f w:=
 Zna (r:=Za.str) (xs.map Value.string) c hd hT he rfl hn (by rw [List.length_map];exact hn) h24 h0 (by rw [List.length_map];exact hp) (fun v hv=>by obtain ⟨_,_,rfl⟩:=List.mem_map.1 hv;rfl) (.ofF (Zuu xs)) kk
theorem Ux {T n sz bytes:Nat} {parts:Array (Nat×Operand)} (vs:List Value) (c:Nat) (hr:Yr r c col w (vs.map (·.cells.toList)).flatten xs)
  (kk:∀ a' w' col',Zg col w col' w'→Zc r e c col' w' a' xs.length xs→Zp P m rd ops K rest (Zu f d (.slice a' xs.length xs.length)) w')
  (hT:P.underlying T=some (.slice e):=by exact rfl) (he:Wa P e sz bytes:=by exact ⟨_,_,rfl,rfl,rfl,rfl,rfl⟩) (hsz:r.sz=sz:=by exact rfl)
  (hn:xs.length=n:=by exact rfl) (hvn:vs.length=n:=by exact rfl) (h24:Nat.ble (n * sz) 16777216=true:=by exact rfl) (h0:Nat.blt 0 n=true:=by exact rfl) (hp:(List.map (fun x=>(x.fst,ev f x.snd)) parts.toList)=(List.range' 0 vs.length).zip vs:=by exact rfl) (hvs:vs.all (fun v=>Nat.beq v.cells.size sz)=true:=by exact rfl)
  (hd:Nat.blt d m=true:=by exact rfl):Zp P m rd ops K (⟨some d,.buildSlice T n parts,t,p,af,none⟩ :: rest) f w:=
 Zna vs c hd hT he hsz hn hvn h24 h0 hp (fun v hv=>Nat.eq_of_beq_eq_true (List.all_eq_true.1 hvs v hv)) hr kk
theorem Wy {T c c2 cap cap2 sz bytes:Nat} {a a2:Option Addr} (h:Zc r e c col w a cap xs) (h2:Qa r c c2 col w a2 ys) (hb:(xs.length+ys.length) * bytes≤140737488355328∧xs.length+ys.length≤maxLen)
  (k:∀ a' cap' w' col',Zs (p2 c c2) col w col' w'→Zc r e c col' w' a' cap' (xs++ys)→Zp P m rd ops K rest (Zu f d (.slice a' (xs++ys).length cap')) w')
  (hT:P.underlying T=some (.slice e):=by exact rfl) (he:Wa P e sz bytes:=by exact ⟨_,_,rfl,rfl,rfl,rfl,rfl⟩) (hsz:r.sz=sz:=by exact rfl)
  (hx:ev f x= .slice a xs.length cap:=by exact rfl) (hy:ev f y= .slice a2 ys.length cap2:=by exact rfl) (hd:Nat.blt d m=true:=by exact rfl) (hc:c≠0:=by decide):
  Zp P m rd ops K (⟨some d,.call { callee:=.builtin .append,args:=#[x,y],argTypes:=#[T,T] },t,p,af,none⟩ :: rest) f w:=
 Z0x h h2 hd hT he hsz hx hy hb.1 hb.2 hc k
theorem Wj {T c cap:Nat} {k:IntKind} {a:Option Addr} {j:Int} {x0 x1:Int} {xs:List Int} (h:Zc (Za.int k) e c col w a cap xs) (hj:Zq xs j=some x0)
  (kk:∀ w',Xe c col w col w'→Xt w w'→Zc (Za.int k) e c col w' a cap (xs.set j.toNat x1)→Zp P m rd ops K rest f w')
  (hy:ev f y= .int k x1:=by exact rfl) (hx:ev f x=X5 a (j.toNat * 1):=by exact rfl) (hs:∀ w,(sizeOf T).run P w= .ok 1 w:=by intros;exact rfl) (hc:c≠0:=by decide):
  Zp P m rd ops K (⟨none,.store T x y,t,p,af,none⟩ :: rest) f w:=Z02 h hj rfl hs ⟨rfl,rfl⟩ hx hy hc kk
theorem lI {T c sz:Nat} {k:IntKind} {a:Option Addr} {j:Int} {x0:α} (q:Zq xs j=some x0) (ha:∃ b o,a=some ⟨b,o,none⟩) (kk:Zp P m rd ops K rest (Zu f d (X5 a (j.toNat * sz))) w)
  (hT:P.underlying T=some (.slice e):=by exact rfl) (hs:∀ w,(sizeOf e).run P w= .ok sz w:=by intros;exact rfl) (hx:ev f x= .slice a xs.length c:=by exact rfl) (hy:ev f y= .int k j:=by exact rfl) (hd:Nat.blt d m=true:=by exact rfl):
  Zp P m rd ops K (⟨some d,.indexAddr T x y,t,p,af,none⟩ :: rest) f w:=lV _ (V1 hT hs hx hy (Yb q).1 (Yb q).2.1 ha) kk hd
theorem lW {T:Nat} {ptr v:Value} (h:Ut w ptr v) (kk:Zp P m rd ops K rest (Zu f d v) w) (ha:∀ w,(isAgg T).run P w= .ok false w:=by intros;exact rfl) (hx:ev f x=ptr:=by exact rfl) (hd:Nat.blt d m=true:=by exact rfl):
  Zp P m rd ops K (⟨some d,.load T x,t,p,af,none⟩ :: rest) f w:=lV _ (Uz ha hx h) kk hd
theorem Xf {T g n c:Nat} {cs cs':Array Value} (h:Ze e c col w g cs)
  (k:∀ w',Xe c col w col w'→Xt w w'→Ze e c col w' g cs'→Zp P m rd ops K rest f w') (hy:ev f y= .agg cs':=by exact rfl) (hs:∀ w,(sizeOf T).run P w= .ok n w:=by intros;exact rfl) (hx:ev f x= .pointer (some ⟨g,0,none⟩):=by exact rfl) (hn:cs.size=n:=by exact rfl) (hv:cs'.size=n:=by exact rfl) (h1:cs'.toList.all (·.oneCell')=true:=by exact rfl):
  Zp P m rd ops K (⟨none,.store T x y,t,p,af,none⟩ :: rest) f w:=Z0z cs' h hs k hx hy hn hv h1
theorem Zz {T T2 i sz c e d2 t2 off:Nat} {g:Nat} {p2:String} {af2:Array Edge} {fs:Array Field} {fd:Field} {cs:Array Value} {v:Value} (h:Ze e c col w g cs)
  (k:Zp P m rd ops K rest (Zu (Zu f d (.pointer ((some (⟨g,0,none⟩:Addr)).map (·.add off)))) d2 v) w)
  (hT:P.underlying T=some (.struct fs):=by exact rfl) (hf:fs[i]?=some fd:=by exact rfl) (ho:fd.offset=off:=by exact rfl) (hs:∀ w,(sizeOf fd.type).run P w= .ok sz w:=by intros;exact rfl)
  (ha:∀ w,(isAgg T2).run P w= .ok false w:=by intros;exact rfl) (hv:cs.toList[off]?=some v:=by exact rfl) (h0:sz≠0:=by decide) (hx:ev f x= .pointer (some ⟨g,0,none⟩):=by exact rfl) (hd:Nat.blt d m=true:=by exact rfl)
  (hy:ev (Zu f d (.pointer ((some (⟨g,0,none⟩:Addr)).map (·.add off)))) y= .pointer ((some (⟨g,0,none⟩:Addr)).map (·.add off)):=by exact rfl) (hd2:Nat.blt d2 m=true:=by exact rfl):
  Zp P m rd ops K (⟨some d,.fieldAddr T x i,t,p,af,none⟩ :: ⟨some d2,.load T2 y,t2,p2,af2,none⟩ :: rest) f w:=lFL g off hT hf hs ha h hv k h0 ho hx hd hy hd2
end
section
variable {P:Program} {m:Nat} {f:Fr} {ops:Array Oper} {C:World→Prop} {K:Fr→Prop} {α:Type} {xs:List α} {rest:List Oper} {d t e:Nat} {p:String} {af:Array Edge} {x y:Operand}
theorem qI {T c sz:Nat} {k:IntKind} {a:Option Addr} {j:Int} {x0:α} (q:Zq xs j=some x0) (ha:∃ b o,a=some ⟨b,o,none⟩) (kk:Y9 P m ops C K rest (Zu f d (X5 a (j.toNat * sz))))
  (hT:P.underlying T=some (.slice e):=by exact rfl) (hs:∀ w,(sizeOf e).run P w= .ok sz w:=by intros;exact rfl) (hx:ev f x= .slice a xs.length c:=by exact rfl) (hy:ev f y= .int k j:=by exact rfl) (hd:Nat.blt d m=true:=by exact rfl):
  Y9 P m ops C K (⟨some d,.indexAddr T x y,t,p,af,none⟩ :: rest) f:=qv hd (fun _ _=>V1 hT hs hx hy (Yb q).1 (Yb q).2.1 ha) kk
theorem qW {T:Nat} {ptr v:Value} (h:∀ w,C w→Ut w ptr v) (kk:Y9 P m ops C K rest (Zu f d v)) (ha:∀ w,(isAgg T).run P w= .ok false w:=by intros;exact rfl) (hx:ev f x=ptr:=by exact rfl) (hd:Nat.blt d m=true:=by exact rfl):
  Y9 P m ops C K (⟨some d,.load T x,t,p,af,none⟩ :: rest) f:=qv hd (fun w hC=>Uz ha hx (h w hC)) kk
end
def Zbf:List Nat→Fr→Fr→Fr
 | [],_,g=>g
 | d :: ds,f,g=>Zu (Zbf ds f g) d (f d)
def Zfm:List Nat→List Value→Fr→Fr
 | d :: ds,v :: vs,f=>Zu (Zfm ds vs f) d v
 | _,_,f=>f
theorem Y0 {a b:Value} {l k:List Value} (h:a=b) (hk:l=k):a :: l=b :: k:=by rw [h,hk]
theorem Zo8 {f g:Fr}:∀ {ds:List Nat},ds.map g=ds.map f→Zbf ds f g=g
 | [],_=>rfl
 | d :: ds,h=>by
  simp only [List.map_cons,List.cons.injEq] at h
  rw [Zbf,Zo8 h.2,Zij h.1]
theorem Zvi {f:Fr}:∀ {ds:List Nat} {vs:List Value},ds.map f=vs→Zfm ds vs f=f
 | [],_,_=>rfl
 | d :: ds,[],h=>by cases h
 | d :: ds,v :: vs,h=>by
  simp only [List.map_cons,List.cons.injEq] at h
  rw [Zfm,Zvi h.2,Zij h.1]
/-! slots that stay,gone through step by step -/
theorem kfU {ds:List Nat} {f:Fr} {d:Nat} {v:Value} {x:List Value} (h:ds.map f=x) (hd:ds.all (fun e=>!Nat.beq e d)=true):ds.map (Zu f d v)=x:=by
 rw [← h]
 refine List.map_congr_left fun e he=>?_
 have h2:=List.all_eq_true.1 hd e he
 have h3:Nat.beq e d=false:=by simpa using h2
 show (bif Nat.beq e d then v else f e)=f e
 rw [h3];rfl
theorem Zrk {f g:Fr} {e:Nat}:∀ {dsJ:List Nat},dsJ.any (Nat.beq e)=true→Zbf dsJ f g e=f e
 | [],h=>by cases h
 | d :: l,h=>by
  show (bif Nat.beq e d then f d else Zbf l f g e)=f e
  rw [List.any_cons,Bool.or_eq_true] at h
  cases hb:Nat.beq e d with
  | true=>rw [Nat.eq_of_beq_eq_true hb];rfl
  | false=>rw [hb] at h;exact Zrk (h.resolve_left (by decide))
theorem kfL {dsJ ds:List Nat} {f g:Fr} {x:List Value} (h:ds.map f=x) (hd:ds.all (fun e=>dsJ.any (Nat.beq e))=true):ds.map (Zbf dsJ f g)=x:=by
 rw [← h]
 exact List.map_congr_left fun e he=>Zrk (List.all_eq_true.1 hd e he)
theorem kfV {ds:List Nat} {f:Fr} {x:List Value}:∀ {e:List Nat} {vs:List Value},ds.map f=x→(ds.all (fun a=>!e.any (Nat.beq a))=true)→ds.map (Zfm e vs f)=x
 | [],_,h,_=>h
 | d :: e,[],h,_=>h
 | d :: e,v :: vs,h,hd=>by
  rw [Zfm]
  refine kfU (kfV h (List.all_eq_true.2 fun a ha=>?_)) (List.all_eq_true.2 fun a ha=>?_)
  ·have:=List.all_eq_true.1 hd a ha
   rw [List.any_cons,Bool.not_or,Bool.and_eq_true] at this
   exact this.2
  ·have:=List.all_eq_true.1 hd a ha
   rw [List.any_cons,Bool.not_or,Bool.and_eq_true] at this
   exact this.1
theorem kfS {ds:List Nat} {f g:Fr} (h:ds.map g=ds.map f):ds.map f=ds.map g:=h.symm
theorem kf {ds:List Nat} {f g:Fr} (h:ds.map f=ds.map g:=by
 (repeat (first
  | ((with_reducible refine kfU ?_ ?_);rotate_left;(exact rfl))
  | ((with_reducible refine kfL ?_ ?_);rotate_left;(exact rfl))
  | ((with_reducible refine kfV ?_ ?_);rotate_left;(exact rfl))))
 refine kfS ?_
 (repeat (first
  | ((with_reducible refine kfU ?_ ?_);rotate_left;(exact rfl))
  | ((with_reducible refine kfL ?_ ?_);rotate_left;(exact rfl))
  | ((with_reducible refine kfV ?_ ?_);rotate_left;(exact rfl))))
 first | (with_reducible exact rfl) | exact rfl):ds.map f=ds.map g:=h
section
variable {P:Program} {m:Nat} {rd:Option Nat} {N R:Fr→World→Prop} {E:Nat→Fr→World→Prop} {f:Fr} {w:World} {c:Code}
theorem Wp.lL (ds:List Nat) {vs:List Value} (h:ds.map f=vs) (k:Wp P m rd c N R E (Zfm ds vs f) w):Wp P m rd c N R E f w:=by rwa [Zvi h] at k
theorem Z6 (ds:List Nat) (I:Nat→Fr→World→Prop) (n:Nat) (h0:I n f w)
  (round:∀ n g w,I n g w→Wp P m rd c (fun f' w'=>∃ k,k<n∧ds.map f'=ds.map f∧I k f' w') R E (Zbf ds f g) w):Wp P m rd (.loop c) N R E f w:=
 Zlz (fun n g w=>ds.map g=ds.map f∧I n g w) n ⟨rfl,h0⟩ fun n g w h=>by
  have:=round n g w h.2
  rwa [Zo8 h.1] at this
theorem Wp.cutK (ds:List Nat) (J:Fr→World→Prop) (h:∀ g w,J g w→N (Zbf ds f g) w) (hc:Wp P m rd c (fun f' w'=>ds.map f'=ds.map f∧J f' w') R E f w):Wp P m rd c N R E f w:=
 hc.cut (fun g w=>ds.map g=ds.map f∧J g w) fun g w hj=>by
  have:=h g w hj.2
  rwa [Zo8 hj.1] at this
end
section
variable {P:Program} {m:Nat} {rd:Option Nat} {f:Fr} {w:World} {ops:Array Oper} {K:Fr→World→Prop} {rest:List Oper} {d t T j sz off:Nat} {p:String} {af:Array Edge} {x:Operand} {fs:Array Field} {fd:Field} {a:Option Addr}
theorem Zv (ha:∃ b o,a=some ⟨b,o,none⟩) (k:Zp P m rd ops K rest (Zu f d (.pointer (a.map (·.add off)))) w) (hx:ev f x= .pointer a:=by exact rfl) (hT:P.underlying T=some (.struct fs):=by exact rfl) (hf:fs[j]?=some fd:=by exact rfl) (ho:fd.offset=off:=by exact rfl) (hs:∀ w,(sizeOf fd.type).run P w= .ok sz w:=by intros;exact rfl) (h0:sz≠0:=by decide) (hd:Nat.blt d m=true:=by exact rfl):
  Zp P m rd ops K (⟨some d,.fieldAddr T x j,t,p,af,none⟩ :: rest) f w:=lV _ (Uy hT hf hs h0 ho hx ha) k hd
end
section
variable {P:Program} {m:Nat} {f:Fr} {ops:Array Oper} {C:World→Prop} {K:Fr→Prop} {rest:List Oper} {d t T j sz off:Nat} {p:String} {af:Array Edge} {x:Operand} {fs:Array Field} {fd:Field} {a:Option Addr}
theorem qF (ha:∃ b o,a=some ⟨b,o,none⟩) (k:Y9 P m ops C K rest (Zu f d (.pointer (a.map (·.add off))))) (hx:ev f x= .pointer a:=by exact rfl) (hT:P.underlying T=some (.struct fs):=by exact rfl) (hf:fs[j]?=some fd:=by exact rfl) (ho:fd.offset=off:=by exact rfl) (hs:∀ w,(sizeOf fd.type).run P w= .ok sz w:=by intros;exact rfl) (h0:sz≠0:=by decide) (hd:Nat.blt d m=true:=by exact rfl):
  Y9 P m ops C K (⟨some d,.fieldAddr T x j,t,p,af,none⟩ :: rest) f:=qv hd (fun _ _=>Uy hT hf hs h0 ho hx ha) k
end
section
variable {P:Program} {m:Nat} {rd:Option Nat} {l:List Oper} {N R:Fr→World→Prop} {E:Nat→Fr→World→Prop} {π:List (Nat×Nat)} {C:World→Prop} {f:Fr} {d t T i j sz off:Nat} {p:String} {af:Array Edge} {x:Operand} {fs:Array Field} {fd:Field} {a:Option Addr} {ptr v:Value}
theorem xF (ha:∃ b o,a=some ⟨b,o,none⟩) (k:Vt P m rd l N R E π C (Zu f d (.pointer (a.map (·.add off))))) (hl:l[i]?=some ⟨some d,.fieldAddr T x j,t,p,af,none⟩:=by exact rfl) (hx:ev f x= .pointer a:=by exact rfl) (hT:P.underlying T=some (.struct fs):=by exact rfl) (hf:fs[j]?=some fd:=by exact rfl) (ho:fd.offset=off:=by exact rfl) (hs:∀ w,(sizeOf fd.type).run P w= .ok sz w:=by intros;exact rfl) (h0:sz≠0:=by decide) (hd:Nat.blt d m=true:=by exact rfl):
  Vt P m rd l N R E ((i,1) :: π) C f:=xu hl hd (fun _=>Uy hT hf hs h0 ho hx ha) k
theorem xW (h:∀ w,C w→Ut w ptr v) (k:Vt P m rd l N R E π C (Zu f d v)) (hl:l[i]?=some ⟨some d,.load T x,t,p,af,none⟩:=by exact rfl) (ha:∀ w,(isAgg T).run P w= .ok false w:=by intros;exact rfl) (hx:ev f x=ptr:=by exact rfl) (hd:Nat.blt d m=true:=by exact rfl):
  Vt P m rd l N R E ((i,0) :: π) C f:=xv hl hd (fun w hC=>Uz ha hx (h w hC)) k
end
theorem xk {D:Prop} {A:(World→Prop)→Prop} {B:(World→Prop)→Prop} {w:World} (col:Zd) (k:B (fun w'=>Zg col w col w')) (h:¬ D:=by decide):∃ C':World→Prop,C' w∧(D→A C')∧B C':=
 ⟨_,Zg.refl col w,fun hd=>absurd hd h,k⟩
theorem Ww {D:Prop} {B:(World→Prop)→Prop} {c1 c2 c3:Zd} {w1 w2 w3:World} (col:Zd) (hC:Zg c1 w1 c1 w2) (hg:Zg c2 w2 c3 w3) (k:B (fun w'=>Zg col w3 col w')):∃ C':World→Prop,C' w3∧(D→∀ w,C' w→Zg c1 w1 c1 w)∧B C':=
 ⟨_,Zg.refl col w3,fun _ _ h=>Zaf hC hg h,k⟩
def cm:List (Nat×Nat)→Nat→Nat
 | [],_=>0
 | (a,b) :: l,n=>bif Nat.beq n a then b else cm l n
section
variable {α:Type} {r:Za α} {xs:List α} {e i c cap:Nat} {a:Option Addr} {col col':Zd} {w0 w':World} {g:Nat→Nat} {l:List Nat}
theorem St.fo (h:St w0 (Zi col) col' w') (ho:Zc r e i col' w' a cap xs) (hg:g 0=0:=by exact rfl) (h0:i≠0:=by decide) (h9:i≠999:=by decide) (hc:g i=c:=by exact rfl):Zc r e c (Vv w0.heap.size col col' g) w' a cap xs:=h.finOwn hg ho h0 h9 hc
theorem St.fs (h:St w0 (Zi col) col' w') (hs:Sl r col' w' a cap xs) (hg:g 0=0:=by exact rfl):Sl r (Vv w0.heap.size col col' g) w' a cap xs:=h.finSl hg hs
theorem St.foL (h:St w0 (Zy l col) col' w') (ho:Zc r e i col' w' a cap xs) (hg:g 0=0:=by exact rfl) (h0:i≠0:=by decide) (h9:i≠999:=by decide) (hc:g i=c:=by exact rfl):Zc r e c (X1 w0.heap.size l col col' g) w' a cap xs:=h.finOwnL hg ho h0 h9 hc
end
section
variable {P:Program} {m:Nat} {w:World} {fn:Func} {f:Fr}
theorem ra {s0 t0 n0:Nat} {p0:Value} {cs0:List Value} (h0:Vg w p0 cs0) (hr:fn.results=#[.cell s0 t0]:=by exact rfl) (hlt0:Nat.blt s0 1000000=true:=by exact rfl) (ha0:∀ w,(isAgg t0).run P w= .ok true w:=by intros;exact rfl) (hs0:∀ w,(sizeOf t0).run P w= .ok n0 w:=by intros;exact rfl) (hp0:f s0=p0:=by exact rfl) (hn0:cs0.length=n0:=by exact rfl):
  ∀ a:Act,Yl m a f→(results fn a.tmps).run P w= .ok (.agg cs0.toArray) w:=Zoy hr hlt0 ha0 hs0 hp0 hn0 h0
theorem Zfl {s0 t0 n0 s1:Nat} {p0 v1:Value} {cs0:List Value} (h0:Vg w p0 cs0) (hr:fn.results=#[.cell s0 t0,.tmp s1]:=by exact rfl) (hlt0:Nat.blt s0 1000000=true:=by exact rfl) (ha0:∀ w,(isAgg t0).run P w= .ok true w:=by intros;exact rfl) (hs0:∀ w,(sizeOf t0).run P w= .ok n0 w:=by intros;exact rfl) (hp0:f s0=p0:=by exact rfl) (hn0:cs0.length=n0:=by exact rfl) (hlt1:Nat.blt s1 1000000=true:=by exact rfl) (hp1:f s1=v1:=by exact rfl):
  ∀ a:Act,Yl m a f→(results fn a.tmps).run P w= .ok (.tuple #[.agg cs0.toArray,v1]) w:=Zbd hr hlt0 ha0 hs0 hp0 hn0 h0 hlt1 hp1
end
theorem vI {a:Value} {k:IntKind} {n:Int} (h:a= .int k n):a= .int k n:=h
theorem vB {a:Value} {b:Bool} (h:a= .bool b):a= .bool b:=h
theorem vS {a:Value} {b:Option Addr} {n c:Nat} (h:a= .slice b n c):a= .slice b n c:=h
theorem vP {a:Value} {b:Option Addr} (h:a= .pointer b):a= .pointer b:=h
theorem vT {a:Value} {b:ByteArray} (h:a= .string b):a= .string b:=h
theorem vM {a:Value} {b:Option Nat} (h:a= .map b):a= .map b:=h
structure Rest (B:Prop):Prop where
 q:B
theorem go {A B:Prop} (q:B) (h:Rest B→A:=by
  intro q
  (repeat (first
    | (with_reducible refine Zo ?_)
    | (with_reducible refine Yo ?_)
    | (with_reducible refine Zj ?_)
    | ((with_reducible apply lVV)
       · first
        | ((with_reducible apply Wo)
           first | exact vI rfl | exact vS rfl | exact vP rfl | exact vB rfl | exact vT rfl | exact vG rfl | exact vM rfl)
        | ((with_reducible apply Y5)
           first | exact vI rfl | exact vS rfl | exact vP rfl | exact vB rfl | exact vT rfl | exact vG rfl | exact vM rfl)
        | ((with_reducible apply Zoo) <;> exact rfl)
        | ((with_reducible apply T0) <;> exact rfl)
        | ((with_reducible apply Zlj) <;> exact rfl)
        | ((with_reducible apply Zt1) <;> exact rfl)
        | ((with_reducible apply Ztw) <;> exact rfl)
        | ((with_reducible apply Zom) <;> exact rfl)
        | ((with_reducible apply Ztu) <;> exact rfl)
        | ((with_reducible apply Zlm) <;> exact rfl)
        | ((with_reducible apply Zll) <;> exact rfl)
        | ((with_reducible apply Zli) <;> exact rfl)
        | ((with_reducible apply Zos) <;> exact rfl)
        | ((with_reducible apply Zcv) <;> exact rfl)
        | ((with_reducible apply Ztv) <;> exact rfl)
        | ((with_reducible apply Zid)
           · exact ⟨_,rfl⟩
           · exact rfl
           · exact rfl)
        | ((with_reducible apply Zor) <;> exact rfl)
        | ((with_reducible apply Zt0) <;> exact rfl)
        | ((with_reducible apply Ztr) <;> exact rfl)
        | ((with_reducible apply Zoq) <;> exact rfl)
        | ((with_reducible apply Zol) <;> exact rfl)
        | ((with_reducible apply Zt3) <;> exact rfl)
       · exact rfl
       · exact rfl)
    | ((with_reducible apply qVV)
       · intro _
         first
          | ((with_reducible apply Wo)
             first | exact vI rfl | exact vS rfl | exact vP rfl | exact vB rfl | exact vT rfl | exact vG rfl | exact vM rfl)
          | ((with_reducible apply Y5)
             first | exact vI rfl | exact vS rfl | exact vP rfl | exact vB rfl | exact vT rfl | exact vG rfl | exact vM rfl)
          | ((with_reducible apply Zoo) <;> exact rfl)
          | ((with_reducible apply T0) <;> exact rfl)
          | ((with_reducible apply Zlj) <;> exact rfl)
          | ((with_reducible apply Zt1) <;> exact rfl)
          | ((with_reducible apply Ztw) <;> exact rfl)
          | ((with_reducible apply Zom) <;> exact rfl)
          | ((with_reducible apply Ztu) <;> exact rfl)
          | ((with_reducible apply Zlm) <;> exact rfl)
          | ((with_reducible apply Zll) <;> exact rfl)
          | ((with_reducible apply Zli) <;> exact rfl)
          | ((with_reducible apply Zos) <;> exact rfl)
          | ((with_reducible apply Zcv) <;> exact rfl)
          | ((with_reducible apply Ztv) <;> exact rfl)
          | ((with_reducible apply Zid)
             · exact ⟨_,rfl⟩
             · exact rfl
             · exact rfl)
          | ((with_reducible apply Zor) <;> exact rfl)
          | ((with_reducible apply Zt0) <;> exact rfl)
          | ((with_reducible apply Ztr) <;> exact rfl)
          | ((with_reducible apply Zoq) <;> exact rfl)
          | ((with_reducible apply Zol) <;> exact rfl)
          | ((with_reducible apply Zt3) <;> exact rfl)
       · exact rfl)
    | (with_reducible refine S8 ?_)
    | (with_reducible refine Z1 ?_)
    | (with_reducible refine W0 ?_)
    | (with_reducible refine Q9 (Zak ?_))
    | ((with_reducible apply lG1)
       · exact rfl
       · exact rfl
       · first | exact gq (by assumption) | exact gn (by assumption)
       · exact rfl)
    | ((with_reducible apply lP1)
       · exact rfl
       · exact rfl
       · first | exact gq (by assumption) | exact gn (by assumption)
       · exact rfl
       · exact rfl)
    | ((with_reducible apply qG1)
       · exact rfl
       · exact rfl
       · first | exact gq (by assumption) | exact gn (by assumption)
       · exact rfl)
    | ((with_reducible apply qP1)
       · exact rfl
       · exact rfl
       · first | exact gq (by assumption) | exact gn (by assumption)
       · exact rfl
       · exact rfl)))
  exact q.1):A:=h ⟨q⟩
end Go.Proofs.YtdpdogdkolblnaaGreatDoor
