/-
  A call that is lent what it may write: its beginning and its end. Over any program.
-/
import Derived.Test.YtdpdogdkolblnaaGreatDoorQueryAskBBoxOps
namespace Go.Proofs.YtdpdogdkolblnaaGreatDoor
open Go Go.RowKit
open Go.IntKind (i8 i16 i32 i64 u8 u16 u32 u64)

def pS (l:List Nat):Nat→Bool:=fun c=>l.any (Nat.beq c)
def Zy (l:List Nat) (col:Zd):Zd:=fun k=>if col k=0 then 0 else if pS l (col k) then 440+l.findIdx (Nat.beq (col k)) else 999
def X1 (B:Nat) (l:List Nat) (col col':Zd) (g:Nat→Nat):Zd:=fun k=>if k<B∧pM (Zy l col k)=false then col k else g (col' k)

section
variable {α:Type} {r:Za α} {e c i p:Nat} {col col':Zd} {w w' w0:World} {xs:List α} {a:Option Addr} {cap:Nat} {l:List Nat} {g:Nat→Nat} {x:α} {cs:List Value} {bs:List Nat}

theorem Zy7 {k:Nat} (h:col k=0):Zy l col k=0:=by simp [Zy,h]
theorem Zs9 {k:Nat} (hl:Nat.ble l.length 10=true):Zy l col k=0∨Zy l col k=999∨(pM (Zy l col k)=true∧pS l (col k)=true):=by
 have hl:=Nat.le_of_ble_eq_true hl
 unfold Zy
 split
 ·exact .inl rfl
 ·split
  ·rename_i h1 h2
   right;right
   refine ⟨?_,h2⟩
   have h3:l.findIdx (Nat.beq (col k))<l.length:=List.findIdx_lt_length.2 (by simpa [pS] using h2)
   simp only [pM,Bool.and_eq_true,Nat.ble_eq,Nat.blt_eq];omega
  ·exact .inr (.inl rfl)
theorem St.startL (hl:Nat.ble l.length 10=true) (col:Zd) (w:World):St w (Zy l col) (Zy l col) w:=⟨Xt.refl w,Nat.le_refl _,fun _ _ _=>⟨rfl,rfl⟩,fun k _=>by
 rcases Zs9 (l:=l) (col:=col) (k:=k) hl with h | h | h
 ·exact .inl h
 ·exact .inr (.inl h)
 ·exact .inr (.inr h.1)⟩
theorem Zl.startL (l:List Nat) (col:Zd) (w:World):Zl col w (Zy l col) w:=fun _ _ h=>⟨Zy7 h,rfl⟩
theorem Xo.startL (h:Xo p col bs) (hp:p≠0) (hi:pS l p=true∧440+l.findIdx (Nat.beq p)=i):Xo i (Zy l col) bs:=⟨h.1,fun b hb=>by
 unfold Zy;rw [h.2 b hb,if_neg hp,hi.1,if_pos rfl];exact hi.2⟩
theorem Zc.startL (h:Zc r e p col w a cap xs) (hp:p≠0) (hi:pS l p=true∧440+l.findIdx (Nat.beq p)=i):Zc r e i (Zy l col) w a cap xs:=by
 obtain ⟨bs,h1,h2⟩:=h
 exact ⟨bs,h1.keep (Zl.startL l col w) fun _ _=>rfl,h2.startL hp hi⟩
theorem Ze.startL {g:Nat} {cs:Array Value} (h:Ze e p col w g cs) (hp:p≠0) (hi:pS l p=true∧440+l.findIdx (Nat.beq p)=i):Ze e i (Zy l col) w g cs:=
 ⟨(Xo.startL (bs:=[g]) ⟨by simp,fun b hb=>by simp only [List.mem_singleton] at hb;subst hb;exact h.1⟩ hp hi).2 g (by simp),h.2⟩

theorem St.finL (hl:Nat.ble l.length 10=true) (h:St w0 (Zy l col) col' w') (g:Nat→Nat):Zs (pS l) col w0 (X1 w0.heap.size l col col' g) w':=by
 have hm:∀ k,pS l (col k)=false→pM (Zy l col k)=false:=fun k hp=>by
  rcases Zs9 (l:=l) (col:=col) (k:=k) hl with h | h | h
  ·rw [h];rfl
  ·rw [h];rfl
  ·rw [hp] at h;simp at h
 exact ⟨h.size,fun k hk hp=>by simp [X1,hk,hm k hp],fun k hk hp=>(h.old k hk (hm k hp)).2,h.still⟩
theorem St.finStayL (h:St w0 (Zy l col) col' w') (hg:g 0=0):Zl col' w' (X1 w0.heap.size l col col' g) w':=fun k _ h0=>⟨by
 unfold X1;split
 ·rename_i hk
  have:=(h.old k hk.1 hk.2).1
  rw [h0] at this
  by_cases hc:col k=0
  ·exact hc
  ·unfold Zy at this;rw [if_neg hc] at this;split at this <;> omega
 ·rw [h0,hg],rfl⟩
theorem St.finMineL (h:St w0 (Zy l col) col' w') (hm:Xo i col' bs) (h0:i≠0) (h9:i≠999) (hc:g i=c):Xo c (X1 w0.heap.size l col col' g) bs:=⟨hm.1,fun k hk=>by
 unfold X1;split
 ·rename_i hlt
  have h4:=(h.old k hlt.1 hlt.2).1
  rw [hm.2 k hk] at h4
  rcases h.foreign k hlt.1 with h5 | h5 | h5
  ·exact absurd (h4.trans h5) h0
  ·exact absurd (h4.trans h5) h9
  ·rw [hlt.2] at h5;cases h5
 ·rw [hm.2 k hk,hc]⟩
theorem St.finOwnL (h:St w0 (Zy l col) col' w') (hg:g 0=0) (ho:Zc r e i col' w' a cap xs) (h0:i≠0) (h9:i≠999) (hc:g i=c):Zc r e c (X1 w0.heap.size l col col' g) w' a cap xs:=by
 obtain ⟨bs,h1,h2⟩:=ho
 exact ⟨bs,h1.keep (h.finStayL hg) fun _ _=>rfl,h.finMineL h2 h0 h9 hc⟩
theorem St.finBoxL {k:Nat} {cs:Array Value} (h:St w0 (Zy l col) col' w') (ho:Ze e i col' w' k cs) (h0:i≠0) (h9:i≠999) (hc:g i=c):Ze e c (X1 w0.heap.size l col col' g) w' k cs:=
 ⟨(h.finMineL (bs:=[k]) ⟨by simp,fun b hb=>by simp only [List.mem_singleton] at hb;subst hb;exact ho.1⟩ h0 h9 hc).2 k (by simp),ho.2⟩
theorem St.finRdL (h:St w0 (Zy l col) col' w') (hg:g 0=0) (ho:r.rd col' w' cs x []):r.rd (X1 w0.heap.size l col col' g) w' cs x []:=r.keep ho (h.finStayL hg) fun _ _=>rfl
end
end Go.Proofs.YtdpdogdkolblnaaGreatDoor
