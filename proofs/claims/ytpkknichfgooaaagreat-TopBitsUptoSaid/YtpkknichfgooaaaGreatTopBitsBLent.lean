/-
  A call that is lent what it may write: its beginning and its end. Over any program.
-/
import Derived.Test.YtpkknichfgooaaaGreatTopBitsBBoxOps
namespace Go.Proofs.YtpkknichfgooaaaGreat
open Go Go.RowKit
open Nat renaming beq→aH,ble→cV
open List renaming mem_singleton→bD
open Go.IntKind (i8 i16 i32 i64 u8 u16 u32 u64)

def pS (l:List Nat):Nat→Bool:=fun c=>l.any (aH c)
def X7 (l:List Nat) (col:Zg):Zg:=fun k=>if col k=0 then 0 else if pS l (col k) then 440+l.findIdx (aH (col k)) else 999
def Q8 (B:Nat) (l:List Nat) (col col':Zg) (g:Nat→Nat):Zg:=fun k=>if k<B∧pM (X7 l col k)=false then col k else g (col' k)

section
variable {α:Type} {r:Zc α} {e c i p:Nat} {col col':Zg} {w w' w0:World} {xs:List α} {a:Option Addr} {cap:Nat} {l:List Nat} {g:Nat→Nat} {x:α} {cs:List Value} {bs:List Nat}

theorem Z5z {k:Nat} (h:col k=0):X7 l col k=0:=by simp [X7,h]
theorem Zzj {k:Nat} (hl:cV l.length 10=true):X7 l col k=0∨X7 l col k=999∨(pM (X7 l col k)=true∧pS l (col k)=true):=by
 have hl:=Nat.le_of_ble_eq_true hl
 unfold X7
 split
 ·exact .inl rfl
 ·split
  ·rename_i d b
   right;right
   refine ⟨?_,b⟩
   have f:l.findIdx (aH (col k))<l.length:=List.findIdx_lt_length.2 (by simpa [pS] using b)
   simp only [pM,Bool.and_eq_true,Nat.ble_eq,Nat.blt_eq];omega
  ·exact .inr (.inl rfl)
theorem St.startL (hl:cV l.length 10=true) (col:Zg) (w:World):St w (X7 l col) (X7 l col) w:=⟨Yn.refl w,Nat.le_refl _,fun _ _ _=>⟨rfl,rfl⟩,fun k _=>by
 rcases Zzj (l:=l) (col:=col) (k:=k) hl with h | h | h
 ·exact .inl h
 ·exact .inr (.inl h)
 ·exact .inr (.inr h.1)⟩
theorem Yu.startL (l:List Nat) (col:Zg) (w:World):Yu col w (X7 l col) w:=fun _ _ h=>⟨Z5z h,rfl⟩
theorem X8.startL (h:X8 p col bs) (hp:p≠0) (hi:pS l p=true∧440+l.findIdx (aH p)=i):X8 i (X7 l col) bs:=⟨h.1,fun b d=>by
 unfold X7;rw [h.2 b d,if_neg hp,hi.1,if_pos rfl];exact hi.2⟩
theorem Zb.startL (h:Zb r e p col w a cap xs) (hp:p≠0) (hi:pS l p=true∧440+l.findIdx (aH p)=i):Zb r e i (X7 l col) w a cap xs:=by
 obtain ⟨bs,b,d⟩:=h
 exact ⟨bs,b.keep (Yu.startL l col w) fun _ _=>rfl,d.startL hp hi⟩
theorem Zi.startL {g:Nat} {cs:Array Value} (h:Zi e p col w g cs) (hp:p≠0) (hi:pS l p=true∧440+l.findIdx (aH p)=i):Zi e i (X7 l col) w g cs:=
 ⟨(X8.startL (bs:=[g]) ⟨by simp,fun b d=>by simp only [bD] at d;subst d;exact h.1⟩ hp hi).2 g (by simp),h.2⟩

theorem St.finL (hl:cV l.length 10=true) (h:St w0 (X7 l col) col' w') (g:Nat→Nat):Zu (pS l) col w0 (Q8 w0.heap.size l col col' g) w':=by
 have f:∀ k,pS l (col k)=false→pM (X7 l col k)=false:=fun k b=>by
  rcases Zzj (l:=l) (col:=col) (k:=k) hl with h | h | h
  ·rw [h];rfl
  ·rw [h];rfl
  ·rw [b] at h;simp at h
 exact ⟨h.size,fun k d b=>by simp [Q8,d,f k b],fun k d b=>(h.old k d (f k b)).2,h.still⟩
theorem St.finStayL (h:St w0 (X7 l col) col' w') (hg:g 0=0):Yu col' w' (Q8 w0.heap.size l col col' g) w':=fun k _ b=>⟨by
 unfold Q8;split
 ·rename_i d
  have:=(h.old k d.1 d.2).1
  rw [b] at this
  by_cases hc:col k=0
  ·exact hc
  ·unfold X7 at this;rw [if_neg hc] at this;split at this <;> omega
 ·rw [b,hg],rfl⟩
theorem St.finMineL (h:St w0 (X7 l col) col' w') (hm:X8 i col' bs) (h0:i≠0) (h9:i≠999) (hc:g i=c):X8 c (Q8 w0.heap.size l col col' g) bs:=⟨hm.1,fun k j=>by
 unfold Q8;split
 ·rename_i b
  have f:=(h.old k b.1 b.2).1
  rw [hm.2 k j] at f
  rcases h.foreign k b.1 with d | d | d
  ·exact absurd (f.trans d) h0
  ·exact absurd (f.trans d) h9
  ·rw [b.2] at d;cases d
 ·rw [hm.2 k j,hc]⟩
theorem St.finOwnL (h:St w0 (X7 l col) col' w') (hg:g 0=0) (ho:Zb r e i col' w' a cap xs) (h0:i≠0) (h9:i≠999) (hc:g i=c):Zb r e c (Q8 w0.heap.size l col col' g) w' a cap xs:=by
 obtain ⟨bs,b,d⟩:=ho
 exact ⟨bs,b.keep (h.finStayL hg) fun _ _=>rfl,h.finMineL d h0 h9 hc⟩
theorem St.finBoxL {k:Nat} {cs:Array Value} (h:St w0 (X7 l col) col' w') (ho:Zi e i col' w' k cs) (h0:i≠0) (h9:i≠999) (hc:g i=c):Zi e c (Q8 w0.heap.size l col col' g) w' k cs:=
 ⟨(h.finMineL (bs:=[k]) ⟨by simp,fun b d=>by simp only [bD] at d;subst d;exact ho.1⟩ h0 h9 hc).2 k (by simp),ho.2⟩
end
end Go.Proofs.YtpkknichfgooaaaGreat
