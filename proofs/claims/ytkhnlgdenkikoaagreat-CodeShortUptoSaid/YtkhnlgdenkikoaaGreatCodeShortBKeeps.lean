/-
  What stays true while the world turns: facts that hang on what stays and on blocks of one colour. Over any program.
-/
import Derived.Test.YtkhnlgdenkikoaaGreatCodeShortBMem
namespace Go.Proofs.YtkhnlgdenkikoaaGreat
open Go Go.RowKit
open Go.IntKind (i8 i16 i32 i64 u8 u16 u32 u64)

structure Zt (p:Nat→Bool) (col:Ze) (w:World) (col':Ze) (w':World):Prop where
 size:w.heap.size≤w'.heap.size
 tint:∀ k,k<w.heap.size→p (col k)=false→col' k=col k
 block:∀ k,k<w.heap.size→p (col k)=false→w'.heap[k]?=w.heap[k]?
 still:Ye w w'

def Xc (c d:Nat) (col:Ze):Ze:=fun k=>if col k=c then d else col k
def Xn (c:Nat) (col:Ze):Ze:=fun k=>if col k=c then 0 else col k
def p1 (c:Nat):Nat→Bool:=fun k=>Nat.beq k c
def p2 (c d:Nat):Nat→Bool:=fun k=>Nat.beq k c||Nat.beq k d

section
variable {p q:Nat→Bool} {c d i:Nat} {col col' col'':Ze} {w w' w'':World}

theorem Zka {k:Nat} (h:col k=c):Xc c d col k=d:=by unfold Xc;rw [if_pos h]
theorem Ze3 {k:Nat} (h:col k≠c):Xc c d col k=col k:=by unfold Xc;rw [if_neg h]
theorem Zts {k:Nat} (h:col k≠c):Xn c col k=col k:=by unfold Xn;rw [if_neg h]
theorem Zni (h:i≠c):Nat.beq i c=false:=by
 cases hb:Nat.beq i c
 ·rfl
 ·exact absurd (Nat.eq_of_beq_eq_true hb) h
theorem Zph (c:Nat):p1 c c=true:=by simp [p1]
theorem Zmj (h:i≠c):p1 c i=false:=Zni h
theorem Z38 (h:i≠c) (h':i≠d):p2 c d i=false:=by simp only [p2,Bool.or_eq_false_iff];exact ⟨Zni h,Zni h'⟩

theorem Zt.refl (p:Nat→Bool) (col:Ze) (w:World):Zt p col w col w:=⟨Nat.le_refl _,fun _ _ _=>rfl,fun _ _ _=>rfl,⟨rfl,rfl,rfl⟩⟩
theorem Zt.trans (h:Zt p col w col' w') (k:Zt p col' w' col'' w''):Zt p col w col'' w'':=
 ⟨Nat.le_trans h.size k.size,fun i hi hp=>by
  have h1:=h.tint i hi hp
  rw [k.tint i (Nat.lt_of_lt_of_le hi h.size) (by rw [h1];exact hp),h1],fun i hi hp=>by
  have h1:=h.tint i hi hp
  rw [k.block i (Nat.lt_of_lt_of_le hi h.size) (by rw [h1];exact hp),h.block i hi hp],
  ⟨k.still.1.trans h.still.1,k.still.2.1.trans h.still.2.1,k.still.2.2.trans h.still.2.2⟩⟩
theorem Zt.mono (h:Zt p col w col' w') (hpq:∀ c,q c=false→p c=false):Zt q col w col' w':=
 ⟨h.size,fun k hk hq=>h.tint k hk (hpq _ hq),fun k hk hq=>h.block k hk (hpq _ hq),h.still⟩
theorem X7.toP (h:X7 c col w col' w') (hs:Ye w w') (hp:p c=true):Zt p col w col' w':=
 ⟨h.size,fun k hk _=>h.tint k hk,fun k hk hq=>h.block k hk (by intro he;rw [he,hp] at hq;cases hq),hs⟩
theorem Zf.toP (h:Zf col w col' w'):Zt p col w col' w':=
 ⟨h.below.size,fun k hk _=>h.tint k hk,fun k hk _=>h.below.block k hk,⟨h.below.os,h.below.tape,h.below.output⟩⟩
theorem Zt.gr (h:Zt p col w col' w') (hg:Zf col' w' col'' w''):Zt p col w col'' w'':=h.trans hg.toP
theorem Zt.kp (h:Zt p col w col' w') (hk:X7 c col' w' col'' w'') (hs:Ye w' w'') (hp:p c=true):Zt p col w col'' w'':=h.trans (hk.toP hs hp)
theorem Zt.recol0 (p:Nat→Bool) (c d:Nat) (hp:p c=true) (col:Ze) (w:World):Zt p col w (Xc c d col) w:=
 ⟨Nat.le_refl _,fun k _ hq=>Ze3 fun he=>by rw [he,hp] at hq;exact absurd hq (by decide),fun _ _ _=>rfl,Ye.refl _⟩
theorem Zt.froz0 (p:Nat→Bool) (c:Nat) (hp:p c=true) (col:Ze) (w:World):Zt p col w (Xn c col) w:=
 ⟨Nat.le_refl _,fun k _ hq=>Zts fun he=>by rw [he,hp] at hq;exact absurd hq (by decide),fun _ _ _=>rfl,Ye.refl _⟩
theorem Zt.recol (c d:Nat) (h:Zt p col w col' w') (hp:p c=true):Zt p col w (Xc c d col') w':=h.trans (Zt.recol0 p c d hp _ _)
theorem Zt.froz (c:Nat) (h:Zt p col w col' w') (hp:p c=true):Zt p col w (Xn c col') w':=h.trans (Zt.froz0 p c hp _ _)
theorem Zt.stay (h:Zt p col w col' w') (h0:p 0=false):Zl col w col' w':=
 fun k hk hc=>⟨(h.tint k hk (by rw [hc];exact h0)).trans hc,h.block k hk (by rw [hc];exact h0)⟩
theorem St.kpp {w0:World} {c0:Ze} (h:St w0 c0 col w) (hk:Zt p col w col' w') (h0:p 0=false:=by rfl) (h9:p 999=false:=by rfl):St w0 c0 col' w':=by
 refine ⟨h.still.trans hk.still,Nat.le_trans h.size hk.size,fun k hlt hm=>?_,h.foreign⟩
 obtain ⟨h1,h2⟩:=h.old k hlt hm
 have h3:=h.foreign k hlt
 have hp:p (col k)=false:=by
  rw [h1];rcases h3 with h3 | h3 | h3
  ·rw [h3];exact h0
  ·rw [h3];exact h9
  ·rw [hm] at h3;cases h3
 have hlt':=Nat.lt_of_lt_of_le hlt h.size
 exact ⟨(hk.tint k hlt' hp).trans h1,(hk.block k hlt' hp).trans h2⟩
theorem St.froz {w0:World} {c0:Ze} (c:Nat) (h:St w0 c0 col w) (hc:c≠0) (h9:c≠999):St w0 c0 (Xn c col) w:=
 h.kpp (Zt.froz0 (p1 c) c (Zph c) _ _) (Zmj (Ne.symm hc)) (Zmj (Ne.symm h9))
theorem St.recol {w0:World} {c0:Ze} (c d:Nat) (h:St w0 c0 col w) (hc:c≠0) (h9:c≠999):St w0 c0 (Xc c d col) w:=
 h.kpp (Zt.recol0 (p1 c) c d (Zph c) _ _) (Zmj (Ne.symm hc)) (Zmj (Ne.symm h9))

def U0 (i:Nat) (F:Ze→World→Prop):Prop:=∀ {col w col' w'},F col w→w.heap.size≤w'.heap.size→Zl col w col' w'→(∀ k,k<w.heap.size→col k=i→col' k=i∧w'.heap[k]?=w.heap[k]?)→F col' w'

variable {F:Ze→World→Prop}
theorem U0.kp (hl:U0 i F) (h:F col w) (hk:X7 c col w col' w') (hc:c≠0) (hi:i≠c):F col' w':=
 hl h hk.size (hk.stay hc) fun k hlt hki=>⟨(hk.tint k hlt).trans hki,hk.block k hlt (by rw [hki];exact hi)⟩
theorem U0.gr (hl:U0 i F) (h:F col w) (hg:Zf col w col' w'):F col' w':=hl.kp h (hg.keep (i+1)) (by omega) (by omega)
theorem U0.kpp (hl:U0 i F) (h:F col w) (hk:Zt p col w col' w') (h0:p 0=false) (hi:p i=false):F col' w':=
 hl h hk.size (hk.stay h0) fun k hlt hki=>⟨(hk.tint k hlt (by rw [hki];exact hi)).trans hki,hk.block k hlt (by rw [hki];exact hi)⟩
theorem U0.froz (hl:U0 i F) (c:Nat) (h:F col w) (hi:i≠c):F (Xn c col) w:=
 hl h (Nat.le_refl _) (fun k _ h0=>⟨by unfold Xn;split <;> simp_all,rfl⟩) fun k _ hk=>⟨by rw [Zts (by rw [hk];exact hi),hk],rfl⟩
theorem U0.recol (hl:U0 i F) (c d:Nat) (hc:i≠c∧c≠0) (h:F col w):F (Xc c d col) w:=
 hl h (Nat.le_refl _) (fun k _ h0=>⟨by rw [Ze3 (by rw [h0];exact Ne.symm hc.2),h0],rfl⟩) fun k _ hk=>⟨by rw [Ze3 (by rw [hk];exact hc.1),hk],rfl⟩
end

section
variable {α:Type} {r:Za α} {e c d i:Nat} {col col':Ze} {w w':World} {xs:List α} {a:Option Addr} {cap:Nat} {p:Nat→Bool} {bs:List Nat} {cs:List Value} {x:α}

theorem Xy.loc (hlt:∀ b ∈ bs,b<w.heap.size) (h:Xy i col bs) (hk:∀ k,k<w.heap.size→col k=i→col' k=i∧w'.heap[k]?=w.heap[k]?):Xy i col' bs:=⟨h.1,fun b hb=>(hk b (hlt b hb) (h.2 b hb)).1⟩
theorem Xp.loc:U0 i (fun col w=>Xp r i col w cs x):=fun ⟨bs,h1,h2⟩ _ hs hk=>⟨bs,r.keep h1 hs fun b hb=>(hk b (r.lt h1 b hb) (h2.2 b hb)).2,h2.loc (r.lt h1) hk⟩
theorem Zc.loc:U0 i (fun col w=>Zc r e i col w a cap xs):=fun ⟨bs,h1,h2⟩ _ hs hk=>⟨bs,h1.keep hs fun b hb=>(hk b (h1.lt b hb) (h2.2 b hb)).2,h2.loc h1.lt hk⟩
theorem Zj.loc {g:Nat} {cs:Array Value}:U0 i (fun col w=>Zj e i col w g cs):=fun h _ _ hk=>by
 obtain ⟨h1,h2⟩:=hk _ (Array.getElem?_eq_some_iff.1 h.2).1 h.1
 exact ⟨h1,h2.trans h.2⟩
theorem Zc.kpp (h:Zc r e i col w a cap xs) (hk:Zt p col w col' w') (h0:p 0=false:=by rfl) (hi:p i=false:=by rfl):Zc r e i col' w' a cap xs:=Zc.loc.kpp h hk h0 hi
theorem Zj.kpp {g:Nat} {cs:Array Value} (h:Zj e i col w g cs) (hk:Zt p col w col' w') (hi:p i=false:=by rfl):Zj e i col' w' g cs:=by
 have hlt:=(Array.getElem?_eq_some_iff.1 h.2).1
 exact ⟨(hk.tint g hlt (by rw [h.1];exact hi)).trans h.1,by rw [hk.block g hlt (by rw [h.1];exact hi)];exact h.2⟩
theorem Sl.kpp (h:Sl r col w a cap xs) (hk:Zt p col w col' w') (h0:p 0=false:=by rfl):Sl r col' w' a cap xs:=h.keep (hk.stay h0)

theorem Zl.froz (c:Nat):Zl col w (Xn c col) w:=fun k _ h=>⟨by unfold Xn;split <;> simp_all,rfl⟩
theorem Zl.recol (c d:Nat) (hc:c≠0):Zl col w (Xc c d col) w:=fun k _ h=>⟨by rw [Ze3 (by rw [h];exact Ne.symm hc),h],rfl⟩
theorem Sl.froz (c:Nat) (h:Sl r col w a cap xs):Sl r (Xn c col) w a cap xs:=h.keep (Zl.froz c)
theorem Sl.recol (c d:Nat) (hc:c≠0) (h:Sl r col w a cap xs):Sl r (Xc c d col) w a cap xs:=h.keep (Zl.recol c d hc)
theorem Zc.froz (c:Nat) (h:Zc r e i col w a cap xs) (hi:i≠c):Zc r e i (Xn c col) w a cap xs:=Zc.loc.froz c h hi
theorem Zj.froz {g:Nat} {cs:Array Value} (c:Nat) (h:Zj e i col w g cs) (hi:i≠c):Zj e i (Xn c col) w g cs:=Zj.loc.froz c h hi
theorem Zc.recol (c d:Nat) (hc:i≠c∧c≠0) (h:Zc r e i col w a cap xs):Zc r e i (Xc c d col) w a cap xs:=Zc.loc.recol c d hc h
theorem Xp.recol (c d:Nat) (hc:i≠c∧c≠0) (h:Xp r i col w cs x):Xp r i (Xc c d col) w cs x:=Xp.loc.recol c d hc h
theorem Zj.recol {g:Nat} {cs:Array Value} (c d:Nat) (hc:i≠c∧c≠0) (h:Zj e i col w g cs):Zj e i (Xc c d col) w g cs:=Zj.loc.recol c d hc h
theorem Zc.recolSelf (d:Nat) (hc:c≠0) (h:Zc r e c col w a cap xs):Zc r e d (Xc c d col) w a cap xs:=by
 obtain ⟨bs,h1,h2⟩:=h
 exact ⟨bs,h1.keep (Zl.recol c d hc) fun _ _=>rfl,h2.1,fun b hb=>Zka (h2.2 b hb)⟩
theorem Zj.recolSelf {g:Nat} {cs:Array Value} (d:Nat) (h:Zj e c col w g cs):Zj e d (Xc c d col) w g cs:=⟨Zka h.1,h.2⟩

theorem Zc.toSlF {s:Za α} (hf:Zg r s) (h:Zc r e c col w a cap xs):Sl s (Xn c col) w a cap xs:=h.slF hf fun k hk=>by unfold Xn;split <;> simp_all
end
end Go.Proofs.YtkhnlgdenkikoaaGreat
