/-
  What stays true while the world turns: facts that hang on what stays and on blocks of one colour. Over any program.
-/
import Derived.Test.YtdpdogdkolblnaaGreatDoorQueryAskBMem
namespace Go.Proofs.YtdpdogdkolblnaaGreatDoor
open Go Go.RowKit
open Go.IntKind (i8 i16 i32 i64 u8 u16 u32 u64)

structure Zs (p:Nat→Bool) (col:Zd) (w:World) (col':Zd) (w':World):Prop where
 size:w.heap.size≤w'.heap.size
 tint:∀ k,k<w.heap.size→p (col k)=false→col' k=col k
 block:∀ k,k<w.heap.size→p (col k)=false→w'.heap[k]?=w.heap[k]?
 still:Xt w w'

def Xh (c d:Nat) (col:Zd):Zd:=fun k=>if col k=c then d else col k
def Yi (c:Nat) (col:Zd):Zd:=fun k=>if col k=c then 0 else col k
def p1 (c:Nat):Nat→Bool:=fun k=>Nat.beq k c
def p2 (c d:Nat):Nat→Bool:=fun k=>Nat.beq k c||Nat.beq k d

section
variable {p q:Nat→Bool} {c d i:Nat} {col col' col'':Zd} {w w' w'':World}

theorem Zln {k:Nat} (h:col k=c):Xh c d col k=d:=by unfold Xh;rw [if_pos h]
theorem Zcy {k:Nat} (h:col k≠c):Xh c d col k=col k:=by unfold Xh;rw [if_neg h]
theorem Z0k {k:Nat} (h:col k=c):Yi c col k=0:=by unfold Yi;rw [if_pos h]
theorem Zra {k:Nat} (h:col k≠c):Yi c col k=col k:=by unfold Yi;rw [if_neg h]
theorem Zmf (h:i≠c):Nat.beq i c=false:=by
 cases hb:Nat.beq i c
 ·rfl
 ·exact absurd (Nat.eq_of_beq_eq_true hb) h
theorem Zod (c:Nat):p1 c c=true:=by simp [p1]
theorem Zle (h:i≠c):p1 c i=false:=Zmf h
theorem Zs5 (h:i≠c) (h':i≠d):p2 c d i=false:=by simp only [p2,Bool.or_eq_false_iff];exact ⟨Zmf h,Zmf h'⟩

theorem Zs.refl (p:Nat→Bool) (col:Zd) (w:World):Zs p col w col w:=⟨Nat.le_refl _,fun _ _ _=>rfl,fun _ _ _=>rfl,⟨rfl,rfl,rfl⟩⟩
theorem Zs.trans (h:Zs p col w col' w') (k:Zs p col' w' col'' w''):Zs p col w col'' w'':=
 ⟨Nat.le_trans h.size k.size,fun i hi hp=>by
  have h1:=h.tint i hi hp
  rw [k.tint i (Nat.lt_of_lt_of_le hi h.size) (by rw [h1];exact hp),h1],fun i hi hp=>by
  have h1:=h.tint i hi hp
  rw [k.block i (Nat.lt_of_lt_of_le hi h.size) (by rw [h1];exact hp),h.block i hi hp],
  ⟨k.still.1.trans h.still.1,k.still.2.1.trans h.still.2.1,k.still.2.2.trans h.still.2.2⟩⟩
theorem Zs.mono (h:Zs p col w col' w') (hpq:∀ c,q c=false→p c=false):Zs q col w col' w':=
 ⟨h.size,fun k hk hq=>h.tint k hk (hpq _ hq),fun k hk hq=>h.block k hk (hpq _ hq),h.still⟩
theorem Xe.toP (h:Xe c col w col' w') (hs:Xt w w') (hp:p c=true):Zs p col w col' w':=
 ⟨h.size,fun k hk _=>h.tint k hk,fun k hk hq=>h.block k hk (by intro he;rw [he,hp] at hq;cases hq),hs⟩
theorem Zg.toP (h:Zg col w col' w'):Zs p col w col' w':=
 ⟨h.below.size,fun k hk _=>h.tint k hk,fun k hk _=>h.below.block k hk,⟨h.below.os,h.below.tape,h.below.output⟩⟩
theorem Zs.gr (h:Zs p col w col' w') (hg:Zg col' w' col'' w''):Zs p col w col'' w'':=h.trans hg.toP
theorem Zs.kp (h:Zs p col w col' w') (hk:Xe c col' w' col'' w'') (hs:Xt w' w'') (hp:p c=true):Zs p col w col'' w'':=h.trans (hk.toP hs hp)
theorem Zs.recol0 (p:Nat→Bool) (c d:Nat) (hp:p c=true) (col:Zd) (w:World):Zs p col w (Xh c d col) w:=
 ⟨Nat.le_refl _,fun k _ hq=>Zcy fun he=>by rw [he,hp] at hq;exact absurd hq (by decide),fun _ _ _=>rfl,Xt.refl _⟩
theorem Zs.froz0 (p:Nat→Bool) (c:Nat) (hp:p c=true) (col:Zd) (w:World):Zs p col w (Yi c col) w:=
 ⟨Nat.le_refl _,fun k _ hq=>Zra fun he=>by rw [he,hp] at hq;exact absurd hq (by decide),fun _ _ _=>rfl,Xt.refl _⟩
theorem Zs.stay (h:Zs p col w col' w') (h0:p 0=false):Zl col w col' w':=
 fun k hk hc=>⟨(h.tint k hk (by rw [hc];exact h0)).trans hc,h.block k hk (by rw [hc];exact h0)⟩
theorem St.kpp {w0:World} {c0:Zd} (h:St w0 c0 col w) (hk:Zs p col w col' w') (h0:p 0=false:=by rfl) (h9:p 999=false:=by rfl):St w0 c0 col' w':=by
 refine ⟨h.still.trans hk.still,Nat.le_trans h.size hk.size,fun k hlt hm=>?_,h.foreign⟩
 obtain ⟨h1,h2⟩:=h.old k hlt hm
 have h3:=h.foreign k hlt
 have hp:p (col k)=false:=by
  rw [h1];rcases h3 with h3 | h3 | h3
  ·rw [h3];exact h0
  ·rw [h3];exact h9
  ·rw [hm] at h3;cases h3
 have hlt':=Nat.lt_of_lt_of_le hlt h.size
 exact ⟨(hk.tint k hlt' hp).trans h1,(hk.block k hlt' hp).trans h2⟩
theorem St.froz {w0:World} {c0:Zd} (c:Nat) (h:St w0 c0 col w) (hc:c≠0) (h9:c≠999):St w0 c0 (Yi c col) w:=
 h.kpp (Zs.froz0 (p1 c) c (Zod c) _ _) (Zle (Ne.symm hc)) (Zle (Ne.symm h9))
theorem St.recol {w0:World} {c0:Zd} (c d:Nat) (h:St w0 c0 col w) (hc:c≠0) (h9:c≠999):St w0 c0 (Xh c d col) w:=
 h.kpp (Zs.recol0 (p1 c) c d (Zod c) _ _) (Zle (Ne.symm hc)) (Zle (Ne.symm h9))

def V8 (i:Nat) (F:Zd→World→Prop):Prop:=∀ {col w col' w'},F col w→w.heap.size≤w'.heap.size→Zl col w col' w'→(∀ k,k<w.heap.size→col k=i→col' k=i∧w'.heap[k]?=w.heap[k]?)→F col' w'

variable {F:Zd→World→Prop}
theorem V8.kp (hl:V8 i F) (h:F col w) (hk:Xe c col w col' w') (hc:c≠0) (hi:i≠c):F col' w':=
 hl h hk.size (hk.stay hc) fun k hlt hki=>⟨(hk.tint k hlt).trans hki,hk.block k hlt (by rw [hki];exact hi)⟩
theorem V8.gr (hl:V8 i F) (h:F col w) (hg:Zg col w col' w'):F col' w':=hl.kp h (hg.keep (i+1)) (by omega) (by omega)
theorem V8.kpp (hl:V8 i F) (h:F col w) (hk:Zs p col w col' w') (h0:p 0=false) (hi:p i=false):F col' w':=
 hl h hk.size (hk.stay h0) fun k hlt hki=>⟨(hk.tint k hlt (by rw [hki];exact hi)).trans hki,hk.block k hlt (by rw [hki];exact hi)⟩
theorem V8.froz (hl:V8 i F) (c:Nat) (h:F col w) (hi:i≠c:=by decide):F (Yi c col) w:=
 hl h (Nat.le_refl _) (fun k _ h0=>⟨by unfold Yi;split <;> simp_all,rfl⟩) fun k _ hk=>⟨by rw [Zra (by rw [hk];exact hi),hk],rfl⟩
theorem V8.recol (hl:V8 i F) (c d:Nat) (hc:i≠c∧c≠0:=by decide) (h:F col w):F (Xh c d col) w:=
 hl h (Nat.le_refl _) (fun k _ h0=>⟨by rw [Zcy (by rw [h0];exact Ne.symm hc.2),h0],rfl⟩) fun k _ hk=>⟨by rw [Zcy (by rw [hk];exact hc.1),hk],rfl⟩
end

section
variable {α:Type} {r:Za α} {e c d i:Nat} {col col':Zd} {w w':World} {xs:List α} {a:Option Addr} {cap:Nat} {p:Nat→Bool} {bs:List Nat} {cs:List Value} {x:α}

theorem Xo.loc (hlt:∀ b ∈ bs,b<w.heap.size) (h:Xo i col bs) (hk:∀ k,k<w.heap.size→col k=i→col' k=i∧w'.heap[k]?=w.heap[k]?):Xo i col' bs:=⟨h.1,fun b hb=>(hk b (hlt b hb) (h.2 b hb)).1⟩
theorem Xc.loc:V8 i (fun col w=>Xc r i col w cs x):=fun ⟨bs,h1,h2⟩ _ hs hk=>⟨bs,r.keep h1 hs fun b hb=>(hk b (r.lt h1 b hb) (h2.2 b hb)).2,h2.loc (r.lt h1) hk⟩
theorem Zc.loc:V8 i (fun col w=>Zc r e i col w a cap xs):=fun ⟨bs,h1,h2⟩ _ hs hk=>⟨bs,h1.keep hs fun b hb=>(hk b (h1.lt b hb) (h2.2 b hb)).2,h2.loc h1.lt hk⟩
theorem Ze.loc {g:Nat} {cs:Array Value}:V8 i (fun col w=>Ze e i col w g cs):=fun h _ _ hk=>by
 obtain ⟨h1,h2⟩:=hk _ (Array.getElem?_eq_some_iff.1 h.2).1 h.1
 exact ⟨h1,h2.trans h.2⟩
theorem Zc.kpp (h:Zc r e i col w a cap xs) (hk:Zs p col w col' w') (h0:p 0=false:=by rfl) (hi:p i=false:=by rfl):Zc r e i col' w' a cap xs:=Zc.loc.kpp h hk h0 hi
theorem Ze.kpp {g:Nat} {cs:Array Value} (h:Ze e i col w g cs) (hk:Zs p col w col' w') (hi:p i=false:=by rfl):Ze e i col' w' g cs:=by
 have hlt:=(Array.getElem?_eq_some_iff.1 h.2).1
 exact ⟨(hk.tint g hlt (by rw [h.1];exact hi)).trans h.1,by rw [hk.block g hlt (by rw [h.1];exact hi)];exact h.2⟩
theorem Sl.kpp (h:Sl r col w a cap xs) (hk:Zs p col w col' w') (h0:p 0=false:=by rfl):Sl r col' w' a cap xs:=h.keep (hk.stay h0)

theorem Zl.froz (c:Nat):Zl col w (Yi c col) w:=fun k _ h=>⟨by unfold Yi;split <;> simp_all,rfl⟩
theorem Zl.recol (c d:Nat) (hc:c≠0):Zl col w (Xh c d col) w:=fun k _ h=>⟨by rw [Zcy (by rw [h];exact Ne.symm hc),h],rfl⟩
theorem Sl.froz (c:Nat) (h:Sl r col w a cap xs):Sl r (Yi c col) w a cap xs:=h.keep (Zl.froz c)
theorem Sl.recol (c d:Nat) (hc:c≠0:=by decide) (h:Sl r col w a cap xs):Sl r (Xh c d col) w a cap xs:=h.keep (Zl.recol c d hc)
theorem Zc.froz (c:Nat) (h:Zc r e i col w a cap xs) (hi:i≠c:=by decide):Zc r e i (Yi c col) w a cap xs:=Zc.loc.froz c h hi
theorem Ze.froz {g:Nat} {cs:Array Value} (c:Nat) (h:Ze e i col w g cs) (hi:i≠c:=by decide):Ze e i (Yi c col) w g cs:=Ze.loc.froz c h hi
theorem Zc.recol (c d:Nat) (hc:i≠c∧c≠0:=by decide) (h:Zc r e i col w a cap xs):Zc r e i (Xh c d col) w a cap xs:=Zc.loc.recol c d hc h
theorem Xc.recol (c d:Nat) (hc:i≠c∧c≠0:=by decide) (h:Xc r i col w cs x):Xc r i (Xh c d col) w cs x:=Xc.loc.recol c d hc h
theorem Ze.recol {g:Nat} {cs:Array Value} (c d:Nat) (hc:i≠c∧c≠0:=by decide) (h:Ze e i col w g cs):Ze e i (Xh c d col) w g cs:=Ze.loc.recol c d hc h
theorem Zc.recolSelf (d:Nat) (hc:c≠0) (h:Zc r e c col w a cap xs):Zc r e d (Xh c d col) w a cap xs:=by
 obtain ⟨bs,h1,h2⟩:=h
 exact ⟨bs,h1.keep (Zl.recol c d hc) fun _ _=>rfl,h2.1,fun b hb=>Zln (h2.2 b hb)⟩
theorem Zc.toSlF {s:Za α} (hf:Zk r s) (h:Zc r e c col w a cap xs):Sl s (Yi c col) w a cap xs:=h.slF hf fun k hk=>by unfold Yi;split <;> simp_all
end
end Go.Proofs.YtdpdogdkolblnaaGreatDoor
