/-
  Elements of arrays that lie in boxes; a loop that is gone through round by round. Over any program.
-/
import Derived.Test.YtdpdogdkolblnaaGreatDoorQueryBackBFloat
namespace Go.Proofs.YtdpdogdkolblnaaGreatDoor
open Go Go.RowKit
open Go.IntKind (i8 i16 i32 i64 u8 u16 u32 u64)

section
variable {P:Program} {m:Nat} {rd:Option Nat} {c:Code} {N R:Fr→World→Prop} {E:Nat→Fr→World→Prop} {f:Fr} {w:World}
def Zf8 (P:Program) (m:Nat) (rd:Option Nat) (c:Code) (R:Fr→World→Prop) (E:Nat→Fr→World→Prop):Nat→Fr→World→Prop
 | 0,_,_=>False
 | k+1,f,w=>Wp P m rd c (fun f w=>Zf8 P m rd c R E k f w) R E f w
theorem Z4j (k:Nat) (h:Zf8 P m rd c R E k f w):Wp P m rd (.loop c) N R E f w:=
 Zm2 (fun n f w=>Zf8 P m rd c R E n f w) k h fun n f w hI=>by
  cases n with
  | zero=>exact hI.elim
  | succ n=>exact Wp.mono hI (fun f w h=>⟨n,Nat.lt_succ_self n,h⟩) (fun _ _ h=>h) (fun _ _ _ h=>h)
theorem Zq7 {k:Nat} (h:Wp P m rd c (fun f w=>Zf8 P m rd c R E k f w) R E f w):Zf8 P m rd c R E (k+1) f w:=h
end
section
variable {P:Program} {f:Fr} {w:World} {t:Nat} {dst:Option Nat} {p:String} {af:Array Edge} {gd:Option (Nat×Bool)} {x y:Operand}
theorem Zb7 {xt e:TypeId} {len:Nat} {i:IntKind} {j:Int} {a:Option Addr} {sz:Nat} (ht:P.underlying xt=some (.array len e)) (hs:∀ w,(sizeOf e).run P w= .ok sz w) (hx:ev f x= .pointer a) (hy:ev f y= .int i j)
  (h0:0≤j) (hn:j<(len:Int)) (ha:∃ b o,a=some ⟨b,o,none⟩):(execOp (ev f) ⟨dst,.indexAddr xt x y,t,p,af,gd⟩).run P w= .ok (.value (.pointer (a.map (·.add (j.toNat * sz))))) w:=by
 obtain ⟨b,o,rfl⟩:=ha
 simp [execOp,hx,hy,Instr.indexAt,asIntOf,run_underlying ht,h0,hn,hs,Instr.sureAddr]
end
section
variable {α:Type} {r:Za α} {e c cap:Nat} {col:Zc} {w:World} {a:Option Addr} {xs:List α}
theorem Yj.storeF {P:Program} {f:Fr} {T t:Nat} {p:String} {af:Array Edge} {px y:Operand} {v:Value} {q:Option Addr} {k off j:Nat} {cs:List Value} (h:Yj r e c col w a cap xs j cs) (hc:c≠0)
  (hs:∀ w,(sizeOf T).run P w= .ok k w) (hv:v.cells.size=k) (ho:off+k≤r.sz) (h1:∀ u ∈ v.cells.toList,u.oneCell'=true) (hx:ev f px= .pointer q) (hq:∀ b o,a=some ⟨b,o,none⟩→q=some ⟨b,o+(j * r.sz+off),none⟩) (hy:ev f y=v):
  ∃ w',(execOp (ev f) ⟨none,.store T px y,t,p,af,none⟩).run P w= .ok .skip w'∧Z9 c col w col w'∧Xn w w'∧Yj r e c col w' a cap xs j (cs.take off++v.cells.toList++cs.drop (off+k)):=by
 obtain ⟨g,b1,b3,fl1,fl3,h1',h2,h3,h4,h5,h6,h7⟩:=h
 rcases h1'.2 with ⟨_,hn⟩ | ⟨g',cp,cur,hv',hb,hh,hle,hm,hcs,ht⟩
 ·omega
 ·simp only [Value.slice.injEq] at hv'
  obtain ⟨rfl,_,rfl⟩:=hv'
  have hgg:g=g':=by simpa [Value.ownBlock] using h2.symm
  subst hgg
  have hlv:v.cells.toList.length=k:=by simpa using hv
  have hl:=h3.length
  rw [List.length_take,Nat.min_eq_left (by omega)] at hl
  have hmul:j * r.sz+r.sz≤xs.length * r.sz:=by
   have:=Nat.mul_le_mul_right r.sz (show j+1≤xs.length by omega)
   rw [Nat.add_mul] at this;omega
  have hmul2:xs.length * r.sz≤cap * r.sz:=Nat.mul_le_mul_right _ hle
  have hrun:=run_storeCells_at P g (j * r.sz+off) e v.cells.toList 0 cur w hh (by rw [hlv];omega) h1
  simp only [Nat.add_zero,hlv] at hrun
  have hne:∀ b,b ∈ b1++b3→b≠g:=fun b hb e'=>(List.nodup_cons.1 h7.1).1 (e' ▸ hb)
  have hk:Zk col w col (w.setRow g (cur.toList.take (j * r.sz+off)++v.cells.toList++cur.toList.drop (j * r.sz+off+k)).toArray):=fun k _ hk=>⟨hk,setRow_other w g k _ (fun e'=>hc (by rw [← h7.2 g (by simp),← e',hk]))⟩
  have hq':=hq g 0 rfl
  have hlen:cur.toList.length=cap * r.sz:=by simp [hcs]
  have hcl:(cs.take off++v.cells.toList++cs.drop (off+k)).length=r.sz:=by
   simp only [List.length_append,List.length_take,List.length_drop,hlv,h5];omega
  have h8:cur.toList.take (j * r.sz)=fl1:=by
   have:=congrArg (List.take (j * r.sz)) ht
   rw [List.take_take,Nat.min_eq_left (by omega),List.append_assoc,List.take_left' hl] at this
   exact this
  have h85:(cur.toList.drop (j * r.sz)).take r.sz=cs:=by
   have:=congrArg (fun l=>(l.drop (j * r.sz)).take r.sz) ht
   simp only [List.drop_take] at this
   rw [List.take_take,Nat.min_eq_left (by omega),List.append_assoc,List.drop_left' hl,List.take_left' h5] at this
   exact this
  have h9:(cur.toList.drop (j * r.sz+r.sz)).take (xs.length * r.sz - (j * r.sz+r.sz))=fl3:=by
   rw [← List.drop_take,ht,List.append_assoc,List.drop_append,List.drop_eq_nil_of_le (by omega),hl,List.drop_append,List.drop_eq_nil_of_le (by omega),h5]
   simp
  have hmid:cur.toList.take (j * r.sz+off)++v.cells.toList++cur.toList.drop (j * r.sz+off+k)=fl1++(cs.take off++v.cells.toList++cs.drop (off+k))++cur.toList.drop (j * r.sz+r.sz):=by
   have e1:cur.toList.take (j * r.sz+off)=fl1++cs.take off:=by
    rw [List.take_add,h8,← h85,List.take_take,Nat.min_eq_left (by omega)]
   have e2:cur.toList.drop (j * r.sz+off+k)=cs.drop (off+k)++cur.toList.drop (j * r.sz+r.sz):=by
    rw [← h85,List.drop_take,List.drop_drop]
    have:cur.toList.drop (j * r.sz+r.sz)=(cur.toList.drop (j * r.sz+(off+k))).drop (r.sz - (off+k)):=by
     rw [List.drop_drop];congr 1;omega
    rw [this,List.take_append_drop,Nat.add_assoc]
   rw [e1,e2];simp only [List.append_assoc]
  refine ⟨w.setRow g (cur.toList.take (j * r.sz+off)++v.cells.toList++cur.toList.drop (j * r.sz+off+k)).toArray,?_,⟨by simp [World.setRow],fun _ _=>rfl,fun k _ hk=>setRow_other w g k _ (fun e'=>hk (by rw [e'];exact h7.2 g (by simp)))⟩,⟨rfl,rfl,rfl⟩,
   g,b1,b3,fl1,fl3,⟨?_,.inr ⟨g,cap,_,rfl,Nat.zero_le _,setRow_heap w g cur _ e _ hh,hle,hm,?_,?_⟩⟩,rfl,h3.keep hk fun b hb=>setRow_other w g b _ (hne b (by simp [hb])),h4.keep hk fun b hb=>setRow_other w g b _ (hne b (by simp [hb])),hcl,h6,h7⟩
  ·simp only [execOp,hx,hq',hy,Nat.zero_add,Instr.storeAt,Instr.sureAddr,storeVar]
   simp [hs,hv,hrun]
  ·have:=h1'.1
   simp only [List.length_append,hcl] at this ⊢;omega
  ·simp only [List.size_toArray,List.length_append,List.length_take,List.length_drop,hlen,hlv];omega
  ·show List.take (xs.length * r.sz) (cur.toList.take (j * r.sz+off)++v.cells.toList++cur.toList.drop (j * r.sz+off+k))=_
   rw [hmid,List.append_assoc,List.take_append,List.take_of_length_le (by omega),hl,List.take_append,List.take_of_length_le (by omega),hcl,show xs.length * r.sz - j * r.sz - r.sz=xs.length * r.sz - (j * r.sz+r.sz) by omega,h9]
   simp
end
section
variable {P:Program} {m:Nat} {rd:Option Nat} {ops:Array Oper} {K:Fr→World→Prop} {rest:List Oper} {f:Fr} {w:World} {col:Zc} {α:Type} {r:Za α} {e t:Nat} {p:String} {af:Array Edge} {x y:Operand} {xs:List α}
theorem Z1h {T c cap k j:Nat} {a:Option Addr} {v:Value} {q:Option Addr} {cs:List Value} (sz off:Nat) (h:Yj r e c col w a cap xs j cs) (hsz:r.sz=sz) (hs:∀ w,(sizeOf T).run P w= .ok k w) (hv:v.cells.size=k) (ho:off+k≤r.sz) (h1:∀ u ∈ v.cells.toList,u.oneCell'=true)
  (hx:ev f x= .pointer q) (hq:∀ b o,a=some ⟨b,o,none⟩→q=some ⟨b,o+(j * sz+off),none⟩) (hy:ev f y=v) (hc:c≠0)
  (kk:∀ w',Z9 c col w col w'→Xn w w'→Yj r e c col w' a cap xs j (cs.take off++v.cells.toList++cs.drop (off+k))→Zn P m rd ops K rest f w'):
  Zn P m rd ops K (⟨none,.store T x y,t,p,af,none⟩ :: rest) f w:=by
 subst hsz
 obtain ⟨w',hr,h1,h2,h3⟩:=Yj.storeF (P:=P) (t:=t) (p:=p) (af:=af) h hc hs hv ho h1 hx hq hy
 exact lu rfl hr (kk _ h1 h2 h3)
end
end Go.Proofs.YtdpdogdkolblnaaGreatDoor
