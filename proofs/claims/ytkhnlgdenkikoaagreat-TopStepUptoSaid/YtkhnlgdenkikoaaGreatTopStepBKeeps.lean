/-
  What stays true while the world turns: facts that hang on what stays and on blocks of one colour. Over any program.
-/
import Derived.Test.YtkhnlgdenkikoaaGreatTopStepBMem
namespace Go.Proofs.YtkhnlgdenkikoaaGreat
open Go Go.RowKit
open Nat renaming beq→aI,le_refl→bB,le_trans→aU,lt_of_lt_of_le→aE
open Go.IntKind (i8 i16 i32 i64 u8 u16 u32 u64)

structure Zt (p:Nat→Bool) (col:Zd) (w:World) (col':Zd) (w':World):Prop where
 size:w.heap.size≤w'.heap.size
 tint:∀ k,k<w.heap.size→p (col k)=false→col' k=col k
 block:∀ k,k<w.heap.size→p (col k)=false→w'.heap[k]?=w.heap[k]?
 still:Yp w w'

def Xu (c d:Nat) (col:Zd):Zd:=fun k=>if col k=c then d else col k
def Xp (c:Nat) (col:Zd):Zd:=fun k=>if col k=c then 0 else col k
def p1 (c:Nat):Nat→Bool:=fun k=>aI k c
def p2 (c d:Nat):Nat→Bool:=fun k=>aI k c||aI k d

section
variable {p q:Nat→Bool} {c d i:Nat} {col col' col'':Zd} {w w' w'':World}

theorem Zl4 {k:Nat} (h:col k=c):Xu c d col k=d:=by unfold Xu;rw [if_pos h]
theorem Zeb {k:Nat} (h:col k≠c):Xu c d col k=col k:=by unfold Xu;rw [if_neg h]
theorem Zwo {k:Nat} (h:col k≠c):Xp c col k=col k:=by unfold Xp;rw [if_neg h]
theorem beqF (h:i≠c):aI i c=false:=by
 cases hb:aI i c
 ·rfl
 ·exact absurd (Nat.eq_of_beq_eq_true hb) h
theorem Zrz (c:Nat):p1 c c=true:=by simp [p1]
theorem Zor (h:i≠c):p1 c i=false:=beqF h
theorem Zt.refl (p:Nat→Bool) (col:Zd) (w:World):Zt p col w col w:=⟨bB _,fun _ _ _=>rfl,fun _ _ _=>rfl,⟨rfl,rfl,rfl⟩⟩
theorem Zt.trans (h:Zt p col w col' w') (k:Zt p col' w' col'' w''):Zt p col w col'' w'':=
 ⟨aU h.size k.size,fun i b f=>by
  have g:=h.tint i b f
  rw [k.tint i (aE b h.size) (by rw [g];exact f),g],fun i b f=>by
  have g:=h.tint i b f
  rw [k.block i (aE b h.size) (by rw [g];exact f),h.block i b f],
  ⟨k.still.1.trans h.still.1,k.still.2.1.trans h.still.2.1,k.still.2.2.trans h.still.2.2⟩⟩
theorem Zt.mono (h:Zt p col w col' w') (hpq:∀ c,q c=false→p c=false):Zt q col w col' w':=
 ⟨h.size,fun k b f=>h.tint k b (hpq _ f),fun k b f=>h.block k b (hpq _ f),h.still⟩
theorem Ya.toP (h:Ya c col w col' w') (hs:Yp w w') (hp:p c=true):Zt p col w col' w':=
 ⟨h.size,fun k b _=>h.tint k b,fun k b f=>h.block k b (by intro g;rw [g,hp] at f;cases f),hs⟩
theorem Zf.toP (h:Zf col w col' w'):Zt p col w col' w':=
 ⟨h.below.size,fun k b _=>h.tint k b,fun k b _=>h.below.block k b,⟨h.below.os,h.below.tape,h.below.output⟩⟩
theorem Zt.gr (h:Zt p col w col' w') (hg:Zf col' w' col'' w''):Zt p col w col'' w'':=h.trans hg.toP
theorem Zt.kp (h:Zt p col w col' w') (hk:Ya c col' w' col'' w'') (hs:Yp w' w'') (hp:p c=true):Zt p col w col'' w'':=h.trans (hk.toP hs hp)
theorem Zt.recol0 (p:Nat→Bool) (c d:Nat) (hp:p c=true) (col:Zd) (w:World):Zt p col w (Xu c d col) w:=
 ⟨bB _,fun k _ b=>Zeb fun f=>by rw [f,hp] at b;exact absurd b (by decide),fun _ _ _=>rfl,Yp.refl _⟩
theorem Zt.froz0 (p:Nat→Bool) (c:Nat) (hp:p c=true) (col:Zd) (w:World):Zt p col w (Xp c col) w:=
 ⟨bB _,fun k _ b=>Zwo fun f=>by rw [f,hp] at b;exact absurd b (by decide),fun _ _ _=>rfl,Yp.refl _⟩
theorem Zt.recol (c d:Nat) (h:Zt p col w col' w') (hp:p c=true):Zt p col w (Xu c d col') w':=h.trans (Zt.recol0 p c d hp _ _)
theorem Zt.froz (c:Nat) (h:Zt p col w col' w') (hp:p c=true):Zt p col w (Xp c col') w':=h.trans (Zt.froz0 p c hp _ _)
theorem Zt.stay (h:Zt p col w col' w') (h0:p 0=false):Xw col w col' w':=
 fun k f b=>⟨(h.tint k f (by rw [b];exact h0)).trans b,h.block k f (by rw [b];exact h0)⟩
theorem St.kpp {w0:World} {c0:Zd} (h:St w0 c0 col w) (hk:Zt p col w col' w') (h0:p 0=false:=by rfl) (h9:p 999=false:=by rfl):St w0 c0 col' w':=by
 refine ⟨h.still.trans hk.still,aU h.size hk.size,fun k f j=>?_,h.foreign⟩
 obtain ⟨l,n⟩:=h.old k f j
 have b:=h.foreign k f
 have m:p (col k)=false:=by
  rw [l];rcases b with b | b | b
  ·rw [b];exact h0
  ·rw [b];exact h9
  ·rw [j] at b;cases b
 have g:=aE f h.size
 exact ⟨(hk.tint k g m).trans l,(hk.block k g m).trans n⟩
theorem St.froz {w0:World} {c0:Zd} (c:Nat) (h:St w0 c0 col w) (hc:c≠0) (h9:c≠999):St w0 c0 (Xp c col) w:=
 h.kpp (Zt.froz0 (p1 c) c (Zrz c) _ _) (Zor (Ne.symm hc)) (Zor (Ne.symm h9))
theorem St.recol {w0:World} {c0:Zd} (c d:Nat) (h:St w0 c0 col w) (hc:c≠0) (h9:c≠999):St w0 c0 (Xu c d col) w:=
 h.kpp (Zt.recol0 (p1 c) c d (Zrz c) _ _) (Zor (Ne.symm hc)) (Zor (Ne.symm h9))

def Tc (i:Nat) (F:Zd→World→Prop):Prop:=∀ {col w col' w'},F col w→w.heap.size≤w'.heap.size→Xw col w col' w'→(∀ k,k<w.heap.size→col k=i→col' k=i∧w'.heap[k]?=w.heap[k]?)→F col' w'

variable {F:Zd→World→Prop}
theorem Tc.kp (hl:Tc i F) (h:F col w) (hk:Ya c col w col' w') (hc:c≠0) (hi:i≠c):F col' w':=
 hl h hk.size (hk.stay hc) fun k b f=>⟨(hk.tint k b).trans f,hk.block k b (by rw [f];exact hi)⟩
theorem Tc.gr (hl:Tc i F) (h:F col w) (hg:Zf col w col' w'):F col' w':=hl.kp h (hg.keep (i+1)) (by omega) (by omega)
theorem Tc.kpp (hl:Tc i F) (h:F col w) (hk:Zt p col w col' w') (h0:p 0=false) (hi:p i=false):F col' w':=
 hl h hk.size (hk.stay h0) fun k f b=>⟨(hk.tint k f (by rw [b];exact hi)).trans b,hk.block k f (by rw [b];exact hi)⟩
theorem Tc.froz (hl:Tc i F) (c:Nat) (h:F col w) (hi:i≠c:=by decide):F (Xp c col) w:=
 hl h (bB _) (fun k _ f=>⟨by unfold Xp;split <;> simp_all,rfl⟩) fun k _ b=>⟨by rw [Zwo (by rw [b];exact hi),b],rfl⟩
theorem Tc.recol (hl:Tc i F) (c d:Nat) (hc:i≠c∧c≠0:=by decide) (h:F col w):F (Xu c d col) w:=
 hl h (bB _) (fun k _ b=>⟨by rw [Zeb (by rw [b];exact Ne.symm hc.2),b],rfl⟩) fun k _ f=>⟨by rw [Zeb (by rw [f];exact hc.1),f],rfl⟩
end

section
variable {α:Type} {r:Za α} {e c d i:Nat} {col col':Zd} {w w':World} {xs:List α} {a:Option Addr} {cap:Nat} {p:Nat→Bool} {bs:List Nat} {cs:List Value} {x:α}

theorem X2.loc (hlt:∀ b ∈ bs,b<w.heap.size) (h:X2 i col bs) (hk:∀ k,k<w.heap.size→col k=i→col' k=i∧w'.heap[k]?=w.heap[k]?):X2 i col' bs:=⟨h.1,fun b f=>(hk b (hlt b f) (h.2 b f)).1⟩
theorem Yk.loc:Tc i (fun col w=>Yk r i col w cs x):=fun ⟨bs,f,g⟩ _ l j=>⟨bs,r.keep f l fun b k=>(j b (r.lt f b k) (g.2 b k)).2,g.loc (r.lt f) j⟩
theorem Zb.loc:Tc i (fun col w=>Zb r e i col w a cap xs):=fun ⟨bs,f,g⟩ _ l j=>⟨bs,f.keep l fun b k=>(j b (f.lt b k) (g.2 b k)).2,g.loc f.lt j⟩
theorem Zg.loc {g:Nat} {cs:Array Value}:Tc i (fun col w=>Zg e i col w g cs):=fun h _ _ b=>by
 obtain ⟨f,j⟩:=b _ (Array.getElem?_eq_some_iff.1 h.2).1 h.1
 exact ⟨f,j.trans h.2⟩
theorem Zb.kpp (h:Zb r e i col w a cap xs) (hk:Zt p col w col' w') (h0:p 0=false:=by rfl) (hi:p i=false:=by rfl):Zb r e i col' w' a cap xs:=Zb.loc.kpp h hk h0 hi
theorem Zg.kpp {g:Nat} {cs:Array Value} (h:Zg e i col w g cs) (hk:Zt p col w col' w') (hi:p i=false:=by rfl):Zg e i col' w' g cs:=by
 have b:=(Array.getElem?_eq_some_iff.1 h.2).1
 exact ⟨(hk.tint g b (by rw [h.1];exact hi)).trans h.1,by rw [hk.block g b (by rw [h.1];exact hi)];exact h.2⟩
theorem Sl.kpp (h:Sl r col w a cap xs) (hk:Zt p col w col' w') (h0:p 0=false:=by rfl):Sl r col' w' a cap xs:=h.keep (hk.stay h0)

theorem Xw.froz (c:Nat):Xw col w (Xp c col) w:=fun k _ h=>⟨by unfold Xp;split <;> simp_all,rfl⟩
theorem Xw.recol (c d:Nat) (hc:c≠0):Xw col w (Xu c d col) w:=fun k _ h=>⟨by rw [Zeb (by rw [h];exact Ne.symm hc),h],rfl⟩
theorem Sl.froz (c:Nat) (h:Sl r col w a cap xs):Sl r (Xp c col) w a cap xs:=h.keep (Xw.froz c)
theorem Sl.recol (c d:Nat) (hc:c≠0:=by decide) (h:Sl r col w a cap xs):Sl r (Xu c d col) w a cap xs:=h.keep (Xw.recol c d hc)
theorem Zb.froz (c:Nat) (h:Zb r e i col w a cap xs) (hi:i≠c:=by decide):Zb r e i (Xp c col) w a cap xs:=Zb.loc.froz c h hi
theorem Zg.froz {g:Nat} {cs:Array Value} (c:Nat) (h:Zg e i col w g cs) (hi:i≠c:=by decide):Zg e i (Xp c col) w g cs:=Zg.loc.froz c h hi
theorem Zb.recol (c d:Nat) (hc:i≠c∧c≠0:=by decide) (h:Zb r e i col w a cap xs):Zb r e i (Xu c d col) w a cap xs:=Zb.loc.recol c d hc h
theorem Yk.recol (c d:Nat) (hc:i≠c∧c≠0:=by decide) (h:Yk r i col w cs x):Yk r i (Xu c d col) w cs x:=Yk.loc.recol c d hc h
theorem Zg.recol {g:Nat} {cs:Array Value} (c d:Nat) (hc:i≠c∧c≠0:=by decide) (h:Zg e i col w g cs):Zg e i (Xu c d col) w g cs:=Zg.loc.recol c d hc h
theorem Zb.recolSelf (d:Nat) (hc:c≠0) (h:Zb r e c col w a cap xs):Zb r e d (Xu c d col) w a cap xs:=by
 obtain ⟨bs,g,f⟩:=h
 exact ⟨bs,g.keep (Xw.recol c d hc) fun _ _=>rfl,f.1,fun b j=>Zl4 (f.2 b j)⟩
theorem Zb.toSlF {s:Za α} (hf:Zh r s) (h:Zb r e c col w a cap xs):Sl s (Xp c col) w a cap xs:=h.slF hf fun k b=>by unfold Xp;split <;> simp_all
end
end Go.Proofs.YtkhnlgdenkikoaaGreat
