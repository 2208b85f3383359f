/-
  What stays true while the world turns: facts that hang on what stays and on blocks of one colour. Over any program.
-/
import Derived.Test.YtdpdogdkolblnaaGreatDoorQueryNamesBMem
namespace Go.Proofs.YtdpdogdkolblnaaGreatDoor
open Go Go.RowKit
open Go.IntKind (i8 i16 i32 i64 u8 u16 u32 u64)

structure Zo (p:Nat→Bool) (col:Zc) (w:World) (col':Zc) (w':World):Prop where
 size:w.heap.size≤w'.heap.size
 tint:∀ k,k<w.heap.size→p (col k)=false→col' k=col k
 block:∀ k,k<w.heap.size→p (col k)=false→w'.heap[k]?=w.heap[k]?
 still:Xn w w'

def Xc (c d:Nat) (col:Zc):Zc:=fun k=>if col k=c then d else col k
def Yd (c:Nat) (col:Zc):Zc:=fun k=>if col k=c then 0 else col k
def p1 (c:Nat):Nat→Bool:=fun k=>Nat.beq k c
def p2 (c d:Nat):Nat→Bool:=fun k=>Nat.beq k c||Nat.beq k d

section
variable {p q:Nat→Bool} {c d i:Nat} {col col' col'':Zc} {w w' w'':World}

theorem Zkb {k:Nat} (h:col k=c):Xc c d col k=d:=by unfold Xc;rw [if_pos h]
theorem Zca {k:Nat} (h:col k≠c):Xc c d col k=col k:=by unfold Xc;rw [if_neg h]
theorem Zxd {k:Nat} (h:col k=c):Yd c col k=0:=by unfold Yd;rw [if_pos h]
theorem Zpv {k:Nat} (h:col k≠c):Yd c col k=col k:=by unfold Yd;rw [if_neg h]
theorem Zkw (h:i≠c):Nat.beq i c=false:=by
 cases hb:Nat.beq i c
 ·rfl
 ·exact absurd (Nat.eq_of_beq_eq_true hb) h
theorem Znr (c:Nat):p1 c c=true:=by simp [p1]
theorem Zjw (h:i≠c):p1 c i=false:=Zkw h
theorem Zqy (h:i≠c) (h':i≠d):p2 c d i=false:=by simp only [p2,Bool.or_eq_false_iff];exact ⟨Zkw h,Zkw h'⟩

theorem Zo.refl (p:Nat→Bool) (col:Zc) (w:World):Zo p col w col w:=⟨Nat.le_refl _,fun _ _ _=>rfl,fun _ _ _=>rfl,⟨rfl,rfl,rfl⟩⟩
theorem Zo.trans (h:Zo p col w col' w') (k:Zo p col' w' col'' w''):Zo p col w col'' w'':=
 ⟨Nat.le_trans h.size k.size,fun i hi hp=>by
  have h1:=h.tint i hi hp
  rw [k.tint i (Nat.lt_of_lt_of_le hi h.size) (by rw [h1];exact hp),h1],fun i hi hp=>by
  have h1:=h.tint i hi hp
  rw [k.block i (Nat.lt_of_lt_of_le hi h.size) (by rw [h1];exact hp),h.block i hi hp],
  ⟨k.still.1.trans h.still.1,k.still.2.1.trans h.still.2.1,k.still.2.2.trans h.still.2.2⟩⟩
theorem Zo.mono (h:Zo p col w col' w') (hpq:∀ c,q c=false→p c=false):Zo q col w col' w':=
 ⟨h.size,fun k hk hq=>h.tint k hk (hpq _ hq),fun k hk hq=>h.block k hk (hpq _ hq),h.still⟩
theorem Xb.toP (h:Xb c col w col' w') (hs:Xn w w') (hp:p c=true):Zo p col w col' w':=
 ⟨h.size,fun k hk _=>h.tint k hk,fun k hk hq=>h.block k hk (by intro he;rw [he,hp] at hq;cases hq),hs⟩
theorem Zf.toP (h:Zf col w col' w'):Zo p col w col' w':=
 ⟨h.below.size,fun k hk _=>h.tint k hk,fun k hk _=>h.below.block k hk,⟨h.below.os,h.below.tape,h.below.output⟩⟩
theorem Zo.gr (h:Zo p col w col' w') (hg:Zf col' w' col'' w''):Zo p col w col'' w'':=h.trans hg.toP
theorem Zo.kp (h:Zo p col w col' w') (hk:Xb c col' w' col'' w'') (hs:Xn w' w'') (hp:p c=true):Zo p col w col'' w'':=h.trans (hk.toP hs hp)
theorem Zo.recol0 (p:Nat→Bool) (c d:Nat) (hp:p c=true) (col:Zc) (w:World):Zo p col w (Xc c d col) w:=
 ⟨Nat.le_refl _,fun k _ hq=>Zca fun he=>by rw [he,hp] at hq;exact absurd hq (by decide),fun _ _ _=>rfl,Xn.refl _⟩
theorem Zo.froz0 (p:Nat→Bool) (c:Nat) (hp:p c=true) (col:Zc) (w:World):Zo p col w (Yd c col) w:=
 ⟨Nat.le_refl _,fun k _ hq=>Zpv fun he=>by rw [he,hp] at hq;exact absurd hq (by decide),fun _ _ _=>rfl,Xn.refl _⟩
theorem Zo.stay (h:Zo p col w col' w') (h0:p 0=false):Zk col w col' w':=
 fun k hk hc=>⟨(h.tint k hk (by rw [hc];exact h0)).trans hc,h.block k hk (by rw [hc];exact h0)⟩
theorem St.kpp {w0:World} {c0:Zc} (h:St w0 c0 col w) (hk:Zo p col w col' w') (h0:p 0=false:=by rfl) (h9:p 999=false:=by rfl):St w0 c0 col' w':=by
 refine ⟨h.still.trans hk.still,Nat.le_trans h.size hk.size,fun k hlt hm=>?_,h.foreign⟩
 obtain ⟨h1,h2⟩:=h.old k hlt hm
 have h3:=h.foreign k hlt
 have hp:p (col k)=false:=by
  rw [h1];rcases h3 with h3 | h3 | h3
  ·rw [h3];exact h0
  ·rw [h3];exact h9
  ·rw [hm] at h3;cases h3
 have hlt':=Nat.lt_of_lt_of_le hlt h.size
 exact ⟨(hk.tint k hlt' hp).trans h1,(hk.block k hlt' hp).trans h2⟩
theorem St.froz {w0:World} {c0:Zc} (c:Nat) (h:St w0 c0 col w) (hc:c≠0) (h9:c≠999):St w0 c0 (Yd c col) w:=
 h.kpp (Zo.froz0 (p1 c) c (Znr c) _ _) (Zjw (Ne.symm hc)) (Zjw (Ne.symm h9))
theorem St.recol {w0:World} {c0:Zc} (c d:Nat) (h:St w0 c0 col w) (hc:c≠0) (h9:c≠999):St w0 c0 (Xc c d col) w:=
 h.kpp (Zo.recol0 (p1 c) c d (Znr c) _ _) (Zjw (Ne.symm hc)) (Zjw (Ne.symm h9))

def Vy (i:Nat) (F:Zc→World→Prop):Prop:=∀ {col w col' w'},F col w→w.heap.size≤w'.heap.size→Zk col w col' w'→(∀ k,k<w.heap.size→col k=i→col' k=i∧w'.heap[k]?=w.heap[k]?)→F col' w'

variable {F:Zc→World→Prop}
theorem Vy.kp (hl:Vy i F) (h:F col w) (hk:Xb c col w col' w') (hc:c≠0) (hi:i≠c):F col' w':=
 hl h hk.size (hk.stay hc) fun k hlt hki=>⟨(hk.tint k hlt).trans hki,hk.block k hlt (by rw [hki];exact hi)⟩
theorem Vy.gr (hl:Vy i F) (h:F col w) (hg:Zf col w col' w'):F col' w':=hl.kp h (hg.keep (i+1)) (by omega) (by omega)
theorem Vy.kpp (hl:Vy i F) (h:F col w) (hk:Zo p col w col' w') (h0:p 0=false) (hi:p i=false):F col' w':=
 hl h hk.size (hk.stay h0) fun k hlt hki=>⟨(hk.tint k hlt (by rw [hki];exact hi)).trans hki,hk.block k hlt (by rw [hki];exact hi)⟩
theorem Vy.froz (hl:Vy i F) (c:Nat) (h:F col w) (hi:i≠c:=by decide):F (Yd c col) w:=
 hl h (Nat.le_refl _) (fun k _ h0=>⟨by unfold Yd;split <;> simp_all,rfl⟩) fun k _ hk=>⟨by rw [Zpv (by rw [hk];exact hi),hk],rfl⟩
theorem Vy.recol (hl:Vy i F) (c d:Nat) (hc:i≠c∧c≠0:=by decide) (h:F col w):F (Xc c d col) w:=
 hl h (Nat.le_refl _) (fun k _ h0=>⟨by rw [Zca (by rw [h0];exact Ne.symm hc.2),h0],rfl⟩) fun k _ hk=>⟨by rw [Zca (by rw [hk];exact hc.1),hk],rfl⟩
end

section
variable {α:Type} {r:Za α} {e c d i:Nat} {col col':Zc} {w w':World} {xs:List α} {a:Option Addr} {cap:Nat} {p:Nat→Bool} {bs:List Nat} {cs:List Value} {x:α}

theorem Xk.loc (hlt:∀ b ∈ bs,b<w.heap.size) (h:Xk i col bs) (hk:∀ k,k<w.heap.size→col k=i→col' k=i∧w'.heap[k]?=w.heap[k]?):Xk i col' bs:=⟨h.1,fun b hb=>(hk b (hlt b hb) (h.2 b hb)).1⟩
theorem Z7.loc:Vy i (fun col w=>Z7 r i col w cs x):=fun ⟨bs,h1,h2⟩ _ hs hk=>⟨bs,r.keep h1 hs fun b hb=>(hk b (r.lt h1 b hb) (h2.2 b hb)).2,h2.loc (r.lt h1) hk⟩
theorem Zb.loc:Vy i (fun col w=>Zb r e i col w a cap xs):=fun ⟨bs,h1,h2⟩ _ hs hk=>⟨bs,h1.keep hs fun b hb=>(hk b (h1.lt b hb) (h2.2 b hb)).2,h2.loc h1.lt hk⟩
theorem Zd.loc {g:Nat} {cs:Array Value}:Vy i (fun col w=>Zd e i col w g cs):=fun h _ _ hk=>by
 obtain ⟨h1,h2⟩:=hk _ (Array.getElem?_eq_some_iff.1 h.2).1 h.1
 exact ⟨h1,h2.trans h.2⟩
theorem Zb.kpp (h:Zb r e i col w a cap xs) (hk:Zo p col w col' w') (h0:p 0=false:=by rfl) (hi:p i=false:=by rfl):Zb r e i col' w' a cap xs:=Zb.loc.kpp h hk h0 hi
theorem Zd.kpp {g:Nat} {cs:Array Value} (h:Zd e i col w g cs) (hk:Zo p col w col' w') (hi:p i=false:=by rfl):Zd e i col' w' g cs:=by
 have hlt:=(Array.getElem?_eq_some_iff.1 h.2).1
 exact ⟨(hk.tint g hlt (by rw [h.1];exact hi)).trans h.1,by rw [hk.block g hlt (by rw [h.1];exact hi)];exact h.2⟩
theorem Sl.kpp (h:Sl r col w a cap xs) (hk:Zo p col w col' w') (h0:p 0=false:=by rfl):Sl r col' w' a cap xs:=h.keep (hk.stay h0)

theorem Zk.froz (c:Nat):Zk col w (Yd c col) w:=fun k _ h=>⟨by unfold Yd;split <;> simp_all,rfl⟩
theorem Zk.recol (c d:Nat) (hc:c≠0):Zk col w (Xc c d col) w:=fun k _ h=>⟨by rw [Zca (by rw [h];exact Ne.symm hc),h],rfl⟩
theorem Sl.froz (c:Nat) (h:Sl r col w a cap xs):Sl r (Yd c col) w a cap xs:=h.keep (Zk.froz c)
theorem Sl.recol (c d:Nat) (hc:c≠0:=by decide) (h:Sl r col w a cap xs):Sl r (Xc c d col) w a cap xs:=h.keep (Zk.recol c d hc)
theorem Zb.froz (c:Nat) (h:Zb r e i col w a cap xs) (hi:i≠c:=by decide):Zb r e i (Yd c col) w a cap xs:=Zb.loc.froz c h hi
theorem Zd.froz {g:Nat} {cs:Array Value} (c:Nat) (h:Zd e i col w g cs) (hi:i≠c:=by decide):Zd e i (Yd c col) w g cs:=Zd.loc.froz c h hi
theorem Zb.recol (c d:Nat) (hc:i≠c∧c≠0:=by decide) (h:Zb r e i col w a cap xs):Zb r e i (Xc c d col) w a cap xs:=Zb.loc.recol c d hc h
theorem Z7.recol (c d:Nat) (hc:i≠c∧c≠0:=by decide) (h:Z7 r i col w cs x):Z7 r i (Xc c d col) w cs x:=Z7.loc.recol c d hc h
theorem Zd.recol {g:Nat} {cs:Array Value} (c d:Nat) (hc:i≠c∧c≠0:=by decide) (h:Zd e i col w g cs):Zd e i (Xc c d col) w g cs:=Zd.loc.recol c d hc h
theorem Zb.recolSelf (d:Nat) (hc:c≠0) (h:Zb r e c col w a cap xs):Zb r e d (Xc c d col) w a cap xs:=by
 obtain ⟨bs,h1,h2⟩:=h
 exact ⟨bs,h1.keep (Zk.recol c d hc) fun _ _=>rfl,h2.1,fun b hb=>Zkb (h2.2 b hb)⟩
theorem Zb.toSlF {s:Za α} (hf:Zj r s) (h:Zb r e c col w a cap xs):Sl s (Yd c col) w a cap xs:=h.slF hf fun k hk=>by unfold Yd;split <;> simp_all
end
end Go.Proofs.YtdpdogdkolblnaaGreatDoor
