/-
  Operations that turn the world, as steps of a list of operations: what follows is asked of every world that they may leave. Over any program.
-/
import Derived.Test.YtpkknichfgooaaaGreatTopBitsBLent
namespace Go.Proofs.YtpkknichfgooaaaGreat
open Go Go.RowKit
open Nat renaming blt→aR,add_mul→bI
open List renaming replicate→aC,length_cons→eU,range'→iN,size_toArray→dC,length_append→bT,length_take→cC
open Go.IntKind (i8 i16 i32 i64 u8 u16 u32 u64)

section
variable {α:Type} {r:Zc α} {e:TypeId} {col:Zg} {w:World} {xs ys:List α}
variable {P:Program} {m:Nat} {rd:Option Nat} {f:Fr} {ops:Array Oper} {K:Fr→World→Prop} {rest:List Oper} {d t:Nat} {p:String} {af:Array Edge} {x y:Operand}

theorem Zdn {v:Value} (c:Nat) (hd:aR d m=true) (hx:ev f x=v)
  (k:∀ g w' col',Zl col w col' w'→Zi e c col' w' g v.cells→Zv P m rd ops K rest (Z3 f d (.pointer (some ⟨g,0,none⟩))) w'):
  Zv P m rd ops K (⟨some d,.box e x,t,p,af,none⟩ :: rest) f w:=by
 obtain ⟨w',a,b,i⟩:=Z9m (P:=P) (e:=e) (col:=col) (w:=w) (t:=t) (dst:=some d) (p:=p) (af:=af) c hx
 exact lv hd rfl a (k _ _ _ b i)
theorem Za5 {v:Value} (c:Nat) (hd:aR d m=true) (hz:∀ w,(zeroValue e).run P w= .ok v w)
  (k:∀ g w' col',Zl col w col' w'→Zi e c col' w' g v.cells→Zv P m rd ops K rest (Z3 f d (.pointer (some ⟨g,0,none⟩))) w'):
  Zv P m rd ops K (⟨some d,.alloc e,t,p,af,none⟩ :: rest) f w:=by
 obtain ⟨w',a,b,i⟩:=Z9l (P:=P) (e:=e) (col:=col) (w:=w) (f:=f) (t:=t) (dst:=some d) (p:=p) (af:=af) c hz
 exact lv hd rfl a (k _ _ _ b i)
theorem Ur {T g n c:Nat} {v:Value} {cs:Array Value} (h:Zi e c col w g cs)
  (hs:∀ w,(sizeOf T).run P w= .ok n w) (hn:cs.size=n) (hv:v.cells.size=n) (h1:∀ u ∈ v.cells.toList,u.oneCell'=true) (hx:ev f x= .pointer (some ⟨g,0,none⟩)) (hy:ev f y=v)
  (k:∀ w',Yh c col w col w'→Yn w w'→Zi e c col w' g v.cells→Zv P m rd ops K rest f w'):
  Zv P m rd ops K (⟨none,.store T x y,t,p,af,none⟩ :: rest) f w:=by
 obtain ⟨w',a,h1,b,i⟩:=Zi.store (t:=t) (p:=p) (af:=af) h hs hn hv h1 hx hy
 exact lu rfl a (k _ h1 b i)
theorem Zx2 {T c cap sz:Nat} {a:Option Addr} {j:Int} {x0 x1:α} {v:Value} (h:Zb r e c col w a cap xs) (hj:Zn xs j=some x0) (hsz:r.sz=sz) (hs:∀ w,(sizeOf T).run P w= .ok sz w)
  (hv:r.rd col w v.cells.toList x1 []) (hx:ev f x=X5 a (j.toNat * sz)) (hy:ev f y=v) (hc:c≠0)
  (k:∀ w',Yh c col w col w'→Yn w w'→Zb r e c col w' a cap (xs.set j.toNat x1)→Zv P m rd ops K rest f w'):
  Zv P m rd ops K (⟨none,.store T x y,t,p,af,none⟩ :: rest) f w:=by
 obtain ⟨w',b,g,i,l⟩:=Zb.store (P:=P) (t:=t) (p:=p) (af:=af) h hc hj hsz hs hv hx hy
 exact lu rfl b (k _ g i l)
theorem Z77 {T c cap sz j:Nat} {a:Option Addr} {v:Value} {cs:List Value} (h:W9 r e c col w a cap xs j cs) (hsz:r.sz=sz) (hs:∀ w,(sizeOf T).run P w= .ok sz w) (hv:v.cells.size=sz) (h1:∀ u ∈ v.cells.toList,u.oneCell'=true)
  (hx:ev f x=X5 a (j * sz)) (hy:ev f y=v) (hc:c≠0)
  (k:∀ w',Yh c col w col w'→Yn w w'→W9 r e c col w' a cap xs j v.cells.toList→Zv P m rd ops K rest f w'):
  Zv P m rd ops K (⟨none,.store T x y,t,p,af,none⟩ :: rest) f w:=by
 obtain ⟨w',b,h1,g,i⟩:=W9.store (P:=P) (t:=t) (p:=p) (af:=af) h hc hsz hs hv h1 hx hy
 exact lu rfl b (k _ h1 g i)
theorem Z71 {T c c2 cap cap2 sz bytes:Nat} {a a2:Option Addr} (h:Zb r e c col w a cap xs) (h2:Qm r c c2 col w a2 ys) (hd:aR d m=true) (hT:P.underlying T=some (.slice e)) (he:Wk P e sz bytes) (hsz:r.sz=sz)
  (hx:ev f x= .slice a xs.length cap) (hy:ev f y= .slice a2 ys.length cap2) (hb:(xs.length+ys.length) * bytes≤140737488355328) (hl:xs.length+ys.length≤maxLen) (hc:c≠0)
  (k:∀ a' cap' w' col',Zu (p2 c c2) col w col' w'→Zb r e c col' w' a' cap' (xs++ys)→Zv P m rd ops K rest (Z3 f d (.slice a' (xs++ys).length cap')) w'):
  Zv P m rd ops K (⟨some d,.call { callee:=.builtin .append,args:=#[x,y],argTypes:=#[T,T] },t,p,af,none⟩ :: rest) f w:=by
 obtain ⟨a',cap',w',col',b,g,i⟩:=Zb.appendM (t:=t) (dst:=some d) (p:=p) (af:=af) h hc h2 hT he hsz hx hy hb hl
 exact lv hd rfl b (k _ _ _ _ g i)
theorem Zad {T c c2 cap cap' cap2 sz bytes:Nat} {a a' a2:Option Addr} {zs:List α} (h:Ex r e c col w a cap xs a' cap' zs) (h2:Qm r c c2 col w a2 ys) (hd:aR d m=true) (hT:P.underlying T=some (.slice e)) (he:Wk P e sz bytes) (hsz:r.sz=sz)
  (hx:ev f x= .slice a' zs.length cap') (hy:ev f y= .slice a2 ys.length cap2) (hb:(zs.length+ys.length) * bytes≤140737488355328) (hl:zs.length+ys.length≤maxLen) (hc:c≠0)
  (k:∀ a1 cap1 w' col',Zu (p2 c c2) col w col' w'→Ex r e c col' w' a cap xs a1 cap1 (zs++ys)→Zv P m rd ops K rest (Z3 f d (.slice a1 (zs++ys).length cap1)) w'):
  Zv P m rd ops K (⟨some d,.call { callee:=.builtin .append,args:=#[x,y],argTypes:=#[T,T] },t,p,af,none⟩ :: rest) f w:=by
 obtain ⟨a1,cap1,w',col',b,g,i⟩:=Ex.append (t:=t) (dst:=some d) (p:=p) (af:=af) h hc h2 hT he hsz hx hy hb hl
 exact lv hd rfl b (k _ _ _ _ g i)
theorem T6 {T n sz bytes:Nat} {kl kc:IntKind} {z:Value} {x0:α} (c:Nat) (hd:aR d m=true) (hT:P.underlying T=some (.slice e)) (i:TypeInfo) (hi:P.info? e=some i) (hz:i.zero=some z) (hs:i.size=sz) (hby:i.bytes=bytes) (hsz:r.sz=sz)
  (hx:ev f x= .int kl (n:Int)) (hy:ev f y= .int kc (n:Int)) (hb:n * bytes≤281474976710656) (hm:n≤maxLen) (hr:r.rd col w z.cells.toList x0 [])
  (k:∀ a' w' col',Zl col w col' w'→Zb r e c col' w' a' n (aC n x0)→Zv P m rd ops K rest (Z3 f d (.slice a' (aC n x0).length n)) w'):
  Zv P m rd ops K (⟨some d,.makeSlice T x y,t,p,af,none⟩ :: rest) f w:=by
 obtain ⟨w',hr,a,b⟩:=Z9w (P:=P) (t:=t) (dst:=some d) (p:=p) (af:=af) c hT i hi hz hs hby hsz hx hy hb hm hr
 exact lv hd rfl hr (k _ _ _ a b)
theorem Z76 {T l n sz bytes:Nat} {kl kc:IntKind} {z:Value} {x0:α} (c:Nat) (hd:aR d m=true) (hT:P.underlying T=some (.slice e)) (i:TypeInfo) (hi:P.info? e=some i) (hz:i.zero=some z) (hs:i.size=sz) (hby:i.bytes=bytes) (hsz:r.sz=sz)
  (hx:ev f x= .int kl (l:Int)) (hy:ev f y= .int kc (n:Int)) (hb:n * bytes≤281474976710656) (hm:n≤maxLen) (hln:l≤n) (hr:r.rd col w z.cells.toList x0 [])
  (k:∀ a' w' col',Zl col w col' w'→Zb r e c col' w' a' n (aC l x0)→Zv P m rd ops K rest (Z3 f d (.slice a' (aC l x0).length n)) w'):
  Zv P m rd ops K (⟨some d,.makeSlice T x y,t,p,af,none⟩ :: rest) f w:=by
 obtain ⟨w',hr,a,b⟩:=Z9y (P:=P) (t:=t) (dst:=some d) (p:=p) (af:=af) c hT i hi hz hs hby hsz hx hy hb hm hln hr
 exact lv hd rfl hr (k _ _ _ a b)
theorem Z73 {T n sz bytes:Nat} {kl kc:IntKind} (c:Nat) (hd:aR d m=true) (hT:P.underlying T=some (.slice e)) (he:Wk P e sz bytes) (hsz:r.sz=sz)
  (hx:ev f x= .int kl 0) (hy:ev f y= .int kc (n:Int)) (hb:n * bytes≤281474976710656) (hm:n≤maxLen)
  (k:∀ a' w' col',Zl col w col' w'→Zb r e c col' w' a' n ([]:List α)→Zv P m rd ops K rest (Z3 f d (.slice a' ([]:List α).length n)) w'):
  Zv P m rd ops K (⟨some d,.makeSlice T x y,t,p,af,none⟩ :: rest) f w:=by
 obtain ⟨w',b,g,i⟩:=Z9x (P:=P) (t:=t) (dst:=some d) (p:=p) (af:=af) (r:=r) (col:=col) (w:=w) c hT he hsz hx hy hb hm
 exact lv hd rfl b (k _ _ _ g i)

/-! a literal -/
theorem Z7l (cs:List Value):∀ (j off:Nat) (cells:Array Value),off+j+cs.length≤cells.size→
  (cs.zipIdx j).foldl (fun acc (q:Value×Nat)=>acc.setIfInBounds (off+q.2) q.1) cells=(cells.toList.take (off+j)++cs++cells.toList.drop (off+j+cs.length)).toArray:=by
 induction cs with
 | nil=>intro j off cells _;simp
 | cons c cs b=>
  intro j off cells h
  simp only [eU] at h
  rw [List.zipIdx_cons,List.foldl_cons,b (j+1) off _ (by simp;omega)]
  have a:off+j<cells.toList.length:=by simp;omega
  congr 1
  simp only [Array.toList_setIfInBounds]
  rw [show off+(j+1)=(off+j)+1 by omega,List.take_add_one,List.take_set_of_le (by omega),List.drop_set_of_lt (by omega)]
  simp only [eU,List.getElem?_set_self a,Option.toList_some]
  rw [show off+j+(cs.length+1)=off+j+1+cs.length by omega]
  simp

theorem Z69 (sz:Nat):∀ (vs:List Value) (k:Nat) (cells:Array Value),cells.size=(k+vs.length) * sz→(∀ v ∈ vs,v.cells.size=sz)→
  Instr.fill (fun i=>some (i * sz,sz)) cells ((iN k vs.length).zip vs)=some (cells.toList.take (k * sz)++(vs.map (·.cells.toList)).flatten).toArray:=by
 intro vs
 induction vs with
 | nil=>intro k cells h _;simp only [List.length_nil,Nat.add_zero] at h;show some cells=_;simp only [← h,List.map_nil,List.flatten_nil,List.append_nil];rw [List.take_of_length_le (by simp)]
 | cons v vs o=>
  intro k cells h l
  have b:=l v (by simp)
  simp only [eU] at h
  have s:(k+(vs.length+1)) * sz=k * sz+sz+vs.length * sz:=by rw [bI,bI];omega
  have n:(k+1+vs.length) * sz=k * sz+sz+vs.length * sz:=by rw [bI,bI];omega
  have a:v.cells.toList.length=sz:=by simpa using b
  have A:=Z7l v.cells.toList 0 (k * sz) cells (by rw [a,h];omega)
  simp only [eU,List.range'_succ,List.zip_cons_cons,Instr.fill]
  rw [if_neg (by simp only [b,h];simp;omega)]
  have B:(v.cells.zipIdx.foldl (fun g (q:Value×Nat)=>g.setIfInBounds (k * sz+q.2) q.1) cells)=(cells.toList.take (k * sz)++v.cells.toList++cells.toList.drop (k * sz+sz)).toArray:=by
   rw [← Array.foldl_toList,Array.toList_zipIdx,A,a];rfl
  have C:(v.cells.zipIdx.foldl (fun g x=>match x with | (c,j)=>g.setIfInBounds (k * sz+j) c) cells)=(cells.toList.take (k * sz)++v.cells.toList++cells.toList.drop (k * sz+sz)).toArray:=B
  rw [C,o (k+1) _ (by simp only [dC,bT,cC,List.length_drop,a,Array.length_toList];omega) (fun u D=>l u (by simp [D]))]
  congr 2
  have E:(cells.toList.take (k * sz)++v.cells.toList).length=(k+1) * sz:=by
   rw [bT,cC,a,Array.length_toList,bI];omega
  rw [List.map_cons,List.flatten_cons,← List.append_assoc,← E,List.take_left]

theorem Zr1 {T n sz bytes:Nat} {parts:Array (Nat×Operand)} (vs:List Value) (c:Nat) (hd:aR d m=true) (hT:P.underlying T=some (.slice e)) (he:Wk P e sz bytes) (hsz:r.sz=sz)
  (hn:xs.length=n) (hvn:vs.length=n) (h24:Nat.ble (n * sz) 16777216=true) (h0:aR 0 n=true) (hp:(List.map (fun x=>(x.fst,ev f x.snd)) parts.toList)=(iN 0 vs.length).zip vs) (hvs:∀ v ∈ vs,v.cells.size=sz)
  (hr:Wf r c col w (vs.map (·.cells.toList)).flatten xs)
  (k:∀ a' w' col',Zl col w col' w'→Zb r e c col' w' a' xs.length xs→Zv P m rd ops K rest (Z3 f d (.slice a' xs.length xs.length)) w'):
  Zv P m rd ops K (⟨some d,.buildSlice T n parts,t,p,af,none⟩ :: rest) f w:=by
 obtain ⟨w',hr,a,b⟩:=Z9v (P:=P) (f:=f) (w:=w) (col:=col) (t:=t) (dst:=some d) (p:=p) (af:=af) (parts:=parts) (xs:=xs) (r:=r) ((vs.map (·.cells.toList)).flatten).toArray c hT he hsz hn h24 h0
  (fun z g=>by
   rw [hp,Z69 sz vs 0 _ (by simp [hvn]) hvs];simp)
  (by obtain ⟨_,hr,_⟩:=hr;have:=hr.length;simp only [dC];rw [this,hn,hsz]) hr
 exact lv hd rfl hr (k _ _ _ a b)

theorem Zr2 {T sz bytes:Nat} (c:Nat) (hd:aR d m=true) (hT:P.underlying T=some (.slice e)) (he:Wk P e sz bytes) (_:r.sz=sz)
  (k:∀ a' w' col',Zl col w col' w'→Zb r e c col' w' a' 0 ([]:List α)→Zv P m rd ops K rest (Z3 f d (.slice a' ([]:List α).length 0)) w'):
  Zv P m rd ops K (⟨some d,.buildSlice T 0 #[],t,p,af,none⟩ :: rest) f w:=by
 obtain ⟨i,z,a,n,o,j,l⟩:=he
 obtain ⟨b,g⟩:=Zb.fresh (e:=e) (c:=c) (col:=col) (w:=w) (r:=r) (xs:=([]:List α)) #[] 0 (Nat.le_refl _) (by simp [maxLen]) (by simp) [] (by simp) .nil
 refine lv (w':=w.alloc (.cells #[] e)) hd rfl ?_ (k _ _ _ b g)
 simp [execOp,Instr.buildSlice,run_underlying hT,sizeOf,typeInfo,a,newRow,Instr.fill]
 congr 2
 exact Array.eq_empty_of_size_eq_zero (by simp)

theorem Z9r {T:TypeId} {dst:Option Nat} {a:Option Addr} {n cap:Nat} (hT:P.underlying T=some (.slice e)) (hx:ev f x= .slice a n cap):
  (execOp (ev f) ⟨dst,.binOp .eql T x (.const (.slice none 0 0)) T,t,p,af,none⟩).run P w= .ok (.value (.bool a.isNone)) w:=by
 have b:ev f (.const (.slice none 0 0))= .slice none 0 0:=rfl
 have c:∀ w,(Op.equal T (.slice a n cap) (.slice none 0 0)).run P w= .ok a.isNone w:=by
  intro w
  unfold Op.equal
  rw [show Op.maxDepth=9999+1 from rfl]
  unfold Op.equalIn
  cases a <;> simp [run_underlying hT]
 simp [execOp,b,hx,eqGuard,binOp,c]
theorem Zso {a:Option Addr} {cap:Nat} (h:Sl r col w a cap xs):(a.isNone=true∧xs=[])∨a.isNone=false:=by
 rcases h.2 with h | ⟨b,g,i,c,_⟩
 ·cases hn:a.isNone with
  | true=>exact .inl ⟨rfl,h⟩
  | false=>exact .inr rfl
 ·right;rw [c];rfl
theorem Ztb {T T1 T2:TypeId} {dst:Option Nat} {i:IntKind} (a b:Int) (hx:ev f x= .int i a) (hy:ev f y= .int i b):
  (execOp (ev f) ⟨dst,.call { callee:=.builtin .min,args:=#[x,y],argTypes:=#[T1,T2] },T,p,af,none⟩).run P w= .ok (.value (.int i (if b<a then b else a))) w:=by
 simp [execOp,resolve,invoke,builtin,hx,hy,Builtin.min_,Builtin.min2]
theorem Z9z {T T1 T2:TypeId} {dst:Option Nat} {i:IntKind} (a b:Int) (hx:ev f x= .int i a) (hy:ev f y= .int i b):
  (execOp (ev f) ⟨dst,.call { callee:=.builtin .max,args:=#[x,y],argTypes:=#[T1,T2] },T,p,af,none⟩).run P w= .ok (.value (.int i (if b>a then b else a))) w:=by
 simp [execOp,resolve,invoke,builtin,hx,hy,Builtin.max_,Builtin.max2]

end
end Go.Proofs.YtpkknichfgooaaaGreat
