/-
  A call that is lent what it may write: its beginning and its end. Over any program.
-/
import Derived.Test.YthclpfhncgpnmaaGreatLearnStepBBoxOps
namespace Go.Proofs.YthclpfhncgpnmaaGreat
open Go Go.RowKit
open Nat renaming beq→aP,ble→dM
open List renaming mem_singleton→bO
open Go.IntKind (i8 i16 i32 i64 u8 u16 u32 u64)

def pS (l:List Nat):Nat→Bool:=fun c=>l.any (aP c)
def Xe (l:List Nat) (col:Ze):Ze:=fun k=>if col k=0 then 0 else if pS l (col k) then 440+l.findIdx (aP (col k)) else 999
def Sw (B:Nat) (l:List Nat) (col col':Ze) (g:Nat→Nat):Ze:=fun k=>if k<B∧pM (Xe l col k)=false then col k else g (col' k)

section
variable {α:Type} {r:Za α} {e c i p:Nat} {col col':Ze} {w w' w0:World} {xs:List α} {a:Option Addr} {cap:Nat} {l:List Nat} {g:Nat→Nat} {x:α} {cs:List Value} {bs:List Nat}

theorem Z7l {k:Nat} (h:col k=0):Xe l col k=0:=by simp [Xe,h]
theorem Zzs {k:Nat} (hl:dM l.length 10=true):Xe l col k=0∨Xe l col k=999∨(pM (Xe l col k)=true∧pS l (col k)=true):=by
 have hl:=Nat.le_of_ble_eq_true hl
 unfold Xe
 split
 ·exact .inl rfl
 ·split
  ·rename_i d b
   right;right
   refine ⟨?_,b⟩
   have f:l.findIdx (aP (col k))<l.length:=List.findIdx_lt_length.2 (by simpa [pS] using b)
   simp only [pM,Bool.and_eq_true,Nat.ble_eq,Nat.blt_eq];omega
  ·exact .inr (.inl rfl)
theorem St.startL (hl:dM l.length 10=true) (col:Ze) (w:World):St w (Xe l col) (Xe l col) w:=⟨Yq.refl w,Nat.le_refl _,fun _ _ _=>⟨rfl,rfl⟩,fun k _=>by
 rcases Zzs (l:=l) (col:=col) (k:=k) hl with h | h | h
 ·exact .inl h
 ·exact .inr (.inl h)
 ·exact .inr (.inr h.1)⟩
theorem X5.startL (l:List Nat) (col:Ze) (w:World):X5 col w (Xe l col) w:=fun _ _ h=>⟨Z7l h,rfl⟩
theorem X9.startL (h:X9 p col bs) (hp:p≠0) (hi:pS l p=true∧440+l.findIdx (aP p)=i):X9 i (Xe l col) bs:=⟨h.1,fun b d=>by
 unfold Xe;rw [h.2 b d,if_neg hp,hi.1,if_pos rfl];exact hi.2⟩
theorem Zb.startL (h:Zb r e p col w a cap xs) (hp:p≠0) (hi:pS l p=true∧440+l.findIdx (aP p)=i):Zb r e i (Xe l col) w a cap xs:=by
 obtain ⟨bs,b,d⟩:=h
 exact ⟨bs,b.keep (X5.startL l col w) fun _ _=>rfl,d.startL hp hi⟩
theorem Zd.startL {g:Nat} {cs:Array Value} (h:Zd e p col w g cs) (hp:p≠0) (hi:pS l p=true∧440+l.findIdx (aP p)=i):Zd e i (Xe l col) w g cs:=
 ⟨(X9.startL (bs:=[g]) ⟨by simp,fun b d=>by simp only [bO] at d;subst d;exact h.1⟩ hp hi).2 g (by simp),h.2⟩

theorem St.finL (hl:dM l.length 10=true) (h:St w0 (Xe l col) col' w') (g:Nat→Nat):Zu (pS l) col w0 (Sw w0.heap.size l col col' g) w':=by
 have f:∀ k,pS l (col k)=false→pM (Xe l col k)=false:=fun k b=>by
  rcases Zzs (l:=l) (col:=col) (k:=k) hl with h | h | h
  ·rw [h];rfl
  ·rw [h];rfl
  ·rw [b] at h;simp at h
 exact ⟨h.size,fun k d b=>by simp [Sw,d,f k b],fun k d b=>(h.old k d (f k b)).2,h.still⟩
theorem St.finStayL (h:St w0 (Xe l col) col' w') (hg:g 0=0):X5 col' w' (Sw w0.heap.size l col col' g) w':=fun k _ b=>⟨by
 unfold Sw;split
 ·rename_i d
  have:=(h.old k d.1 d.2).1
  rw [b] at this
  by_cases hc:col k=0
  ·exact hc
  ·unfold Xe at this;rw [if_neg hc] at this;split at this <;> omega
 ·rw [b,hg],rfl⟩
theorem St.finMineL (h:St w0 (Xe l col) col' w') (hm:X9 i col' bs) (h0:i≠0) (h9:i≠999) (hc:g i=c):X9 c (Sw w0.heap.size l col col' g) bs:=⟨hm.1,fun k j=>by
 unfold Sw;split
 ·rename_i b
  have f:=(h.old k b.1 b.2).1
  rw [hm.2 k j] at f
  rcases h.foreign k b.1 with d | d | d
  ·exact absurd (f.trans d) h0
  ·exact absurd (f.trans d) h9
  ·rw [b.2] at d;cases d
 ·rw [hm.2 k j,hc]⟩
theorem St.finOwnL (h:St w0 (Xe l col) col' w') (hg:g 0=0) (ho:Zb r e i col' w' a cap xs) (h0:i≠0) (h9:i≠999) (hc:g i=c):Zb r e c (Sw w0.heap.size l col col' g) w' a cap xs:=by
 obtain ⟨bs,b,d⟩:=ho
 exact ⟨bs,b.keep (h.finStayL hg) fun _ _=>rfl,h.finMineL d h0 h9 hc⟩
theorem St.finBoxL {k:Nat} {cs:Array Value} (h:St w0 (Xe l col) col' w') (ho:Zd e i col' w' k cs) (h0:i≠0) (h9:i≠999) (hc:g i=c):Zd e c (Sw w0.heap.size l col col' g) w' k cs:=
 ⟨(h.finMineL (bs:=[k]) ⟨by simp,fun b d=>by simp only [bO] at d;subst d;exact ho.1⟩ h0 h9 hc).2 k (by simp),ho.2⟩
end
end Go.Proofs.YthclpfhncgpnmaaGreat
