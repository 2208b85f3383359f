/-
  What stays true while the world turns: facts that hang on what stays and on blocks of one colour. Over any program.
-/
import Derived.Test.YtkhnlgdenkikoaaGreatLearnMostBMem
namespace Go.Proofs.YtkhnlgdenkikoaaGreat
open Go Go.RowKit
open Go.IntKind (i8 i16 i32 i64 u8 u16 u32 u64)

structure Zq (p:Nat→Bool) (col:Ze) (w:World) (col':Ze) (w':World):Prop where
 size:w.heap.size≤w'.heap.size
 tint:∀ k,k<w.heap.size→p (col k)=false→col' k=col k
 block:∀ k,k<w.heap.size→p (col k)=false→w'.heap[k]?=w.heap[k]?
 still:Yb w w'

def Xm (c d:Nat) (col:Ze):Ze:=fun k=>if col k=c then d else col k
def Ys (c:Nat) (col:Ze):Ze:=fun k=>if col k=c then 0 else col k
def p1 (c:Nat):Nat→Bool:=fun k=>Nat.beq k c
def p2 (c d:Nat):Nat→Bool:=fun k=>Nat.beq k c||Nat.beq k d

section
variable {p q:Nat→Bool} {c d i:Nat} {col col' col'':Ze} {w w' w'':World}

theorem Zjw {k:Nat} (h:col k=c):Xm c d col k=d:=by unfold Xm;rw [if_pos h]
theorem Zcp {k:Nat} (h:col k≠c):Xm c d col k=col k:=by unfold Xm;rw [if_neg h]
theorem Ztv {k:Nat} (h:col k≠c):Ys c col k=col k:=by unfold Ys;rw [if_neg h]
theorem Zns (h:i≠c):Nat.beq i c=false:=by
 cases hb:Nat.beq i c
 ·rfl
 ·exact absurd (Nat.eq_of_beq_eq_true hb) h
theorem Zp7 (c:Nat):p1 c c=true:=by simp [p1]
theorem Zmv (h:i≠c):p1 c i=false:=Zns h
theorem Z42 (h:i≠c) (h':i≠d):p2 c d i=false:=by simp only [p2,Bool.or_eq_false_iff];exact ⟨Zns h,Zns h'⟩

theorem Zq.refl (p:Nat→Bool) (col:Ze) (w:World):Zq p col w col w:=⟨Nat.le_refl _,fun _ _ _=>rfl,fun _ _ _=>rfl,⟨rfl,rfl,rfl⟩⟩
theorem Zq.trans (h:Zq p col w col' w') (k:Zq p col' w' col'' w''):Zq p col w col'' w'':=
 ⟨Nat.le_trans h.size k.size,fun i hi hp=>by
  have h1:=h.tint i hi hp
  rw [k.tint i (Nat.lt_of_lt_of_le hi h.size) (by rw [h1];exact hp),h1],fun i hi hp=>by
  have h1:=h.tint i hi hp
  rw [k.block i (Nat.lt_of_lt_of_le hi h.size) (by rw [h1];exact hp),h.block i hi hp],
  ⟨k.still.1.trans h.still.1,k.still.2.1.trans h.still.2.1,k.still.2.2.trans h.still.2.2⟩⟩
theorem Zq.mono (h:Zq p col w col' w') (hpq:∀ c,q c=false→p c=false):Zq q col w col' w':=
 ⟨h.size,fun k hk hq=>h.tint k hk (hpq _ hq),fun k hk hq=>h.block k hk (hpq _ hq),h.still⟩
theorem Xz.toP (h:Xz c col w col' w') (hs:Yb w w') (hp:p c=true):Zq p col w col' w':=
 ⟨h.size,fun k hk _=>h.tint k hk,fun k hk hq=>h.block k hk (by intro he;rw [he,hp] at hq;cases hq),hs⟩
theorem Zh.toP (h:Zh col w col' w'):Zq p col w col' w':=
 ⟨h.below.size,fun k hk _=>h.tint k hk,fun k hk _=>h.below.block k hk,⟨h.below.os,h.below.tape,h.below.output⟩⟩
theorem Zq.gr (h:Zq p col w col' w') (hg:Zh col' w' col'' w''):Zq p col w col'' w'':=h.trans hg.toP
theorem Zq.kp (h:Zq p col w col' w') (hk:Xz c col' w' col'' w'') (hs:Yb w' w'') (hp:p c=true):Zq p col w col'' w'':=h.trans (hk.toP hs hp)
theorem Zq.recol0 (p:Nat→Bool) (c d:Nat) (hp:p c=true) (col:Ze) (w:World):Zq p col w (Xm c d col) w:=
 ⟨Nat.le_refl _,fun k _ hq=>Zcp fun he=>by rw [he,hp] at hq;exact absurd hq (by decide),fun _ _ _=>rfl,Yb.refl _⟩
theorem Zq.froz0 (p:Nat→Bool) (c:Nat) (hp:p c=true) (col:Ze) (w:World):Zq p col w (Ys c col) w:=
 ⟨Nat.le_refl _,fun k _ hq=>Ztv fun he=>by rw [he,hp] at hq;exact absurd hq (by decide),fun _ _ _=>rfl,Yb.refl _⟩
theorem Zq.recol (c d:Nat) (h:Zq p col w col' w') (hp:p c=true):Zq p col w (Xm c d col') w':=h.trans (Zq.recol0 p c d hp _ _)
theorem Zq.stay (h:Zq p col w col' w') (h0:p 0=false):Zi col w col' w':=
 fun k hk hc=>⟨(h.tint k hk (by rw [hc];exact h0)).trans hc,h.block k hk (by rw [hc];exact h0)⟩
theorem St.kpp {w0:World} {c0:Ze} (h:St w0 c0 col w) (hk:Zq p col w col' w') (h0:p 0=false:=by rfl) (h9:p 999=false:=by rfl):St w0 c0 col' w':=by
 refine ⟨h.still.trans hk.still,Nat.le_trans h.size hk.size,fun k hlt hm=>?_,h.foreign⟩
 obtain ⟨h1,h2⟩:=h.old k hlt hm
 have h3:=h.foreign k hlt
 have hp:p (col k)=false:=by
  rw [h1];rcases h3 with h3 | h3 | h3
  ·rw [h3];exact h0
  ·rw [h3];exact h9
  ·rw [hm] at h3;cases h3
 have hlt':=Nat.lt_of_lt_of_le hlt h.size
 exact ⟨(hk.tint k hlt' hp).trans h1,(hk.block k hlt' hp).trans h2⟩
theorem St.froz {w0:World} {c0:Ze} (c:Nat) (h:St w0 c0 col w) (hc:c≠0) (h9:c≠999):St w0 c0 (Ys c col) w:=
 h.kpp (Zq.froz0 (p1 c) c (Zp7 c) _ _) (Zmv (Ne.symm hc)) (Zmv (Ne.symm h9))
theorem St.recol {w0:World} {c0:Ze} (c d:Nat) (h:St w0 c0 col w) (hc:c≠0) (h9:c≠999):St w0 c0 (Xm c d col) w:=
 h.kpp (Zq.recol0 (p1 c) c d (Zp7 c) _ _) (Zmv (Ne.symm hc)) (Zmv (Ne.symm h9))

def Ud (i:Nat) (F:Ze→World→Prop):Prop:=∀ {col w col' w'},F col w→w.heap.size≤w'.heap.size→Zi col w col' w'→(∀ k,k<w.heap.size→col k=i→col' k=i∧w'.heap[k]?=w.heap[k]?)→F col' w'

variable {F:Ze→World→Prop}
theorem Ud.kp (hl:Ud i F) (h:F col w) (hk:Xz c col w col' w') (hc:c≠0) (hi:i≠c):F col' w':=
 hl h hk.size (hk.stay hc) fun k hlt hki=>⟨(hk.tint k hlt).trans hki,hk.block k hlt (by rw [hki];exact hi)⟩
theorem Ud.gr (hl:Ud i F) (h:F col w) (hg:Zh col w col' w'):F col' w':=hl.kp h (hg.keep (i+1)) (by omega) (by omega)
theorem Ud.kpp (hl:Ud i F) (h:F col w) (hk:Zq p col w col' w') (h0:p 0=false) (hi:p i=false):F col' w':=
 hl h hk.size (hk.stay h0) fun k hlt hki=>⟨(hk.tint k hlt (by rw [hki];exact hi)).trans hki,hk.block k hlt (by rw [hki];exact hi)⟩
theorem Ud.froz (hl:Ud i F) (c:Nat) (h:F col w) (hi:i≠c):F (Ys c col) w:=
 hl h (Nat.le_refl _) (fun k _ h0=>⟨by unfold Ys;split <;> simp_all,rfl⟩) fun k _ hk=>⟨by rw [Ztv (by rw [hk];exact hi),hk],rfl⟩
theorem Ud.recol (hl:Ud i F) (c d:Nat) (hc:i≠c∧c≠0) (h:F col w):F (Xm c d col) w:=
 hl h (Nat.le_refl _) (fun k _ h0=>⟨by rw [Zcp (by rw [h0];exact Ne.symm hc.2),h0],rfl⟩) fun k _ hk=>⟨by rw [Zcp (by rw [hk];exact hc.1),hk],rfl⟩
end

section
variable {α:Type} {r:Za α} {e c d i:Nat} {col col':Ze} {w w':World} {xs:List α} {a:Option Addr} {cap:Nat} {p:Nat→Bool} {bs:List Nat} {cs:List Value} {x:α}

theorem Xv.loc (hlt:∀ b ∈ bs,b<w.heap.size) (h:Xv i col bs) (hk:∀ k,k<w.heap.size→col k=i→col' k=i∧w'.heap[k]?=w.heap[k]?):Xv i col' bs:=⟨h.1,fun b hb=>(hk b (hlt b hb) (h.2 b hb)).1⟩
theorem Xu.loc:Ud i (fun col w=>Xu r i col w cs x):=fun ⟨bs,h1,h2⟩ _ hs hk=>⟨bs,r.keep h1 hs fun b hb=>(hk b (r.lt h1 b hb) (h2.2 b hb)).2,h2.loc (r.lt h1) hk⟩
theorem Zb.loc:Ud i (fun col w=>Zb r e i col w a cap xs):=fun ⟨bs,h1,h2⟩ _ hs hk=>⟨bs,h1.keep hs fun b hb=>(hk b (h1.lt b hb) (h2.2 b hb)).2,h2.loc h1.lt hk⟩
theorem Zf.loc {g:Nat} {cs:Array Value}:Ud i (fun col w=>Zf e i col w g cs):=fun h _ _ hk=>by
 obtain ⟨h1,h2⟩:=hk _ (Array.getElem?_eq_some_iff.1 h.2).1 h.1
 exact ⟨h1,h2.trans h.2⟩
theorem Zb.kpp (h:Zb r e i col w a cap xs) (hk:Zq p col w col' w') (h0:p 0=false:=by rfl) (hi:p i=false:=by rfl):Zb r e i col' w' a cap xs:=Zb.loc.kpp h hk h0 hi
theorem Zf.kpp {g:Nat} {cs:Array Value} (h:Zf e i col w g cs) (hk:Zq p col w col' w') (hi:p i=false:=by rfl):Zf e i col' w' g cs:=by
 have hlt:=(Array.getElem?_eq_some_iff.1 h.2).1
 exact ⟨(hk.tint g hlt (by rw [h.1];exact hi)).trans h.1,by rw [hk.block g hlt (by rw [h.1];exact hi)];exact h.2⟩
theorem Sl.kpp (h:Sl r col w a cap xs) (hk:Zq p col w col' w') (h0:p 0=false:=by rfl):Sl r col' w' a cap xs:=h.keep (hk.stay h0)

theorem Zi.froz (c:Nat):Zi col w (Ys c col) w:=fun k _ h=>⟨by unfold Ys;split <;> simp_all,rfl⟩
theorem Zi.recol (c d:Nat) (hc:c≠0):Zi col w (Xm c d col) w:=fun k _ h=>⟨by rw [Zcp (by rw [h];exact Ne.symm hc),h],rfl⟩
theorem Sl.froz (c:Nat) (h:Sl r col w a cap xs):Sl r (Ys c col) w a cap xs:=h.keep (Zi.froz c)
theorem Sl.recol (c d:Nat) (hc:c≠0) (h:Sl r col w a cap xs):Sl r (Xm c d col) w a cap xs:=h.keep (Zi.recol c d hc)
theorem Zb.froz (c:Nat) (h:Zb r e i col w a cap xs) (hi:i≠c):Zb r e i (Ys c col) w a cap xs:=Zb.loc.froz c h hi
theorem Zf.froz {g:Nat} {cs:Array Value} (c:Nat) (h:Zf e i col w g cs) (hi:i≠c):Zf e i (Ys c col) w g cs:=Zf.loc.froz c h hi
theorem Zb.recol (c d:Nat) (hc:i≠c∧c≠0) (h:Zb r e i col w a cap xs):Zb r e i (Xm c d col) w a cap xs:=Zb.loc.recol c d hc h
theorem Xu.recol (c d:Nat) (hc:i≠c∧c≠0) (h:Xu r i col w cs x):Xu r i (Xm c d col) w cs x:=Xu.loc.recol c d hc h
theorem Zf.recol {g:Nat} {cs:Array Value} (c d:Nat) (hc:i≠c∧c≠0) (h:Zf e i col w g cs):Zf e i (Xm c d col) w g cs:=Zf.loc.recol c d hc h
theorem Zb.recolSelf (d:Nat) (hc:c≠0) (h:Zb r e c col w a cap xs):Zb r e d (Xm c d col) w a cap xs:=by
 obtain ⟨bs,h1,h2⟩:=h
 exact ⟨bs,h1.keep (Zi.recol c d hc) fun _ _=>rfl,h2.1,fun b hb=>Zjw (h2.2 b hb)⟩
theorem Zb.toSlF {s:Za α} (hf:Zd r s) (h:Zb r e c col w a cap xs):Sl s (Ys c col) w a cap xs:=h.slF hf fun k hk=>by unfold Ys;split <;> simp_all
end
end Go.Proofs.YtkhnlgdenkikoaaGreat
