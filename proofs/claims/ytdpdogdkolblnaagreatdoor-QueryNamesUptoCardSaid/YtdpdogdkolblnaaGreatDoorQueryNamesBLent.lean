/-
  A call that is lent what it may write: its beginning and its end. Over any program.
-/
import Derived.Test.YtdpdogdkolblnaaGreatDoorQueryNamesBBoxOps
namespace Go.Proofs.YtdpdogdkolblnaaGreatDoor
open Go Go.RowKit
open Go.IntKind (i8 i16 i32 i64 u8 u16 u32 u64)

def pS (l:List Nat):Nat→Bool:=fun c=>l.any (Nat.beq c)
def Zu (l:List Nat) (col:Zc):Zc:=fun k=>if col k=0 then 0 else if pS l (col k) then 440+l.findIdx (Nat.beq (col k)) else 999
def Xt (B:Nat) (l:List Nat) (col col':Zc) (g:Nat→Nat):Zc:=fun k=>if k<B∧pM (Zu l col k)=false then col k else g (col' k)

section
variable {α:Type} {r:Za α} {e c i p:Nat} {col col':Zc} {w w' w0:World} {xs:List α} {a:Option Addr} {cap:Nat} {l:List Nat} {g:Nat→Nat} {x:α} {cs:List Value} {bs:List Nat}

theorem Zwc {k:Nat} (h:col k=0):Zu l col k=0:=by simp [Zu,h]
theorem Zq2 {k:Nat} (hl:Nat.ble l.length 10=true):Zu l col k=0∨Zu l col k=999∨(pM (Zu l col k)=true∧pS l (col k)=true):=by
 have hl:=Nat.le_of_ble_eq_true hl
 unfold Zu
 split
 ·exact .inl rfl
 ·split
  ·rename_i h1 h2
   right;right
   refine ⟨?_,h2⟩
   have h3:l.findIdx (Nat.beq (col k))<l.length:=List.findIdx_lt_length.2 (by simpa [pS] using h2)
   simp only [pM,Bool.and_eq_true,Nat.ble_eq,Nat.blt_eq];omega
  ·exact .inr (.inl rfl)
theorem St.startL (hl:Nat.ble l.length 10=true) (col:Zc) (w:World):St w (Zu l col) (Zu l col) w:=⟨Xn.refl w,Nat.le_refl _,fun _ _ _=>⟨rfl,rfl⟩,fun k _=>by
 rcases Zq2 (l:=l) (col:=col) (k:=k) hl with h | h | h
 ·exact .inl h
 ·exact .inr (.inl h)
 ·exact .inr (.inr h.1)⟩
theorem Zk.startL (l:List Nat) (col:Zc) (w:World):Zk col w (Zu l col) w:=fun _ _ h=>⟨Zwc h,rfl⟩
theorem Xk.startL (h:Xk p col bs) (hp:p≠0) (hi:pS l p=true∧440+l.findIdx (Nat.beq p)=i):Xk i (Zu l col) bs:=⟨h.1,fun b hb=>by
 unfold Zu;rw [h.2 b hb,if_neg hp,hi.1,if_pos rfl];exact hi.2⟩
theorem Zb.startL (h:Zb r e p col w a cap xs) (hp:p≠0) (hi:pS l p=true∧440+l.findIdx (Nat.beq p)=i):Zb r e i (Zu l col) w a cap xs:=by
 obtain ⟨bs,h1,h2⟩:=h
 exact ⟨bs,h1.keep (Zk.startL l col w) fun _ _=>rfl,h2.startL hp hi⟩
theorem Zd.startL {g:Nat} {cs:Array Value} (h:Zd e p col w g cs) (hp:p≠0) (hi:pS l p=true∧440+l.findIdx (Nat.beq p)=i):Zd e i (Zu l col) w g cs:=
 ⟨(Xk.startL (bs:=[g]) ⟨by simp,fun b hb=>by simp only [List.mem_singleton] at hb;subst hb;exact h.1⟩ hp hi).2 g (by simp),h.2⟩

theorem St.finL (hl:Nat.ble l.length 10=true) (h:St w0 (Zu l col) col' w') (g:Nat→Nat):Zo (pS l) col w0 (Xt w0.heap.size l col col' g) w':=by
 have hm:∀ k,pS l (col k)=false→pM (Zu l col k)=false:=fun k hp=>by
  rcases Zq2 (l:=l) (col:=col) (k:=k) hl with h | h | h
  ·rw [h];rfl
  ·rw [h];rfl
  ·rw [hp] at h;simp at h
 exact ⟨h.size,fun k hk hp=>by simp [Xt,hk,hm k hp],fun k hk hp=>(h.old k hk (hm k hp)).2,h.still⟩
theorem St.finStayL (h:St w0 (Zu l col) col' w') (hg:g 0=0):Zk col' w' (Xt w0.heap.size l col col' g) w':=fun k _ h0=>⟨by
 unfold Xt;split
 ·rename_i hk
  have:=(h.old k hk.1 hk.2).1
  rw [h0] at this
  by_cases hc:col k=0
  ·exact hc
  ·unfold Zu at this;rw [if_neg hc] at this;split at this <;> omega
 ·rw [h0,hg],rfl⟩
theorem St.finMineL (h:St w0 (Zu l col) col' w') (hm:Xk i col' bs) (h0:i≠0) (h9:i≠999) (hc:g i=c):Xk c (Xt w0.heap.size l col col' g) bs:=⟨hm.1,fun k hk=>by
 unfold Xt;split
 ·rename_i hlt
  have h4:=(h.old k hlt.1 hlt.2).1
  rw [hm.2 k hk] at h4
  rcases h.foreign k hlt.1 with h5 | h5 | h5
  ·exact absurd (h4.trans h5) h0
  ·exact absurd (h4.trans h5) h9
  ·rw [hlt.2] at h5;cases h5
 ·rw [hm.2 k hk,hc]⟩
theorem St.finOwnL (h:St w0 (Zu l col) col' w') (hg:g 0=0) (ho:Zb r e i col' w' a cap xs) (h0:i≠0) (h9:i≠999) (hc:g i=c):Zb r e c (Xt w0.heap.size l col col' g) w' a cap xs:=by
 obtain ⟨bs,h1,h2⟩:=ho
 exact ⟨bs,h1.keep (h.finStayL hg) fun _ _=>rfl,h.finMineL h2 h0 h9 hc⟩
theorem St.finBoxL {k:Nat} {cs:Array Value} (h:St w0 (Zu l col) col' w') (ho:Zd e i col' w' k cs) (h0:i≠0) (h9:i≠999) (hc:g i=c):Zd e c (Xt w0.heap.size l col col' g) w' k cs:=
 ⟨(h.finMineL (bs:=[k]) ⟨by simp,fun b hb=>by simp only [List.mem_singleton] at hb;subst hb;exact ho.1⟩ h0 h9 hc).2 k (by simp),ho.2⟩
theorem St.finRdL (h:St w0 (Zu l col) col' w') (hg:g 0=0) (ho:r.rd col' w' cs x []):r.rd (Xt w0.heap.size l col col' g) w' cs x []:=r.keep ho (h.finStayL hg) fun _ _=>rfl
end
end Go.Proofs.YtdpdogdkolblnaaGreatDoor
