/-
  What stays true while the world turns: facts that hang on what stays and on blocks of one colour. Over any program.
-/
import Derived.Test.YtkhnlgdenkikoaaGreatLearnRisesBMem
namespace Go.Proofs.YtkhnlgdenkikoaaGreat
open Go Go.RowKit
open Nat renaming beq→aJ,le_refl→aY,le_trans→aU,lt_of_lt_of_le→aF
open Go.IntKind (i8 i16 i32 i64 u8 u16 u32 u64)

structure Zu (p:Nat→Bool) (col:Ze) (w:World) (col':Ze) (w':World):Prop where
 size:w.heap.size≤w'.heap.size
 tint:∀ k,k<w.heap.size→p (col k)=false→col' k=col k
 block:∀ k,k<w.heap.size→p (col k)=false→w'.heap[k]?=w.heap[k]?
 still:Ym w w'

def Xy (c d:Nat) (col:Ze):Ze:=fun k=>if col k=c then d else col k
def Y0 (c:Nat) (col:Ze):Ze:=fun k=>if col k=c then 0 else col k
def p1 (c:Nat):Nat→Bool:=fun k=>aJ k c
def p2 (c d:Nat):Nat→Bool:=fun k=>aJ k c||aJ k d

section
variable {p q:Nat→Bool} {c d i:Nat} {col col' col'':Ze} {w w' w'':World}

theorem Zlm {k:Nat} (h:col k=c):Xy c d col k=d:=by unfold Xy;rw [if_pos h]
theorem Zea {k:Nat} (h:col k≠c):Xy c d col k=col k:=by unfold Xy;rw [if_neg h]
theorem Zv3 {k:Nat} (h:col k≠c):Y0 c col k=col k:=by unfold Y0;rw [if_neg h]
theorem Zpi (h:i≠c):aJ i c=false:=by
 cases hb:aJ i c
 ·rfl
 ·exact absurd (Nat.eq_of_beq_eq_true hb) h
theorem Zro (c:Nat):p1 c c=true:=by simp [p1]
theorem Zod (h:i≠c):p1 c i=false:=Zpi h
theorem Z8i (h:i≠c) (h':i≠d):p2 c d i=false:=by simp only [p2,Bool.or_eq_false_iff];exact ⟨Zpi h,Zpi h'⟩

theorem Zu.refl (p:Nat→Bool) (col:Ze) (w:World):Zu p col w col w:=⟨aY _,fun _ _ _=>rfl,fun _ _ _=>rfl,⟨rfl,rfl,rfl⟩⟩
theorem Zu.trans (h:Zu p col w col' w') (k:Zu p col' w' col'' w''):Zu p col w col'' w'':=
 ⟨aU h.size k.size,fun i b f=>by
  have g:=h.tint i b f
  rw [k.tint i (aF b h.size) (by rw [g];exact f),g],fun i b f=>by
  have g:=h.tint i b f
  rw [k.block i (aF b h.size) (by rw [g];exact f),h.block i b f],
  ⟨k.still.1.trans h.still.1,k.still.2.1.trans h.still.2.1,k.still.2.2.trans h.still.2.2⟩⟩
theorem Zu.mono (h:Zu p col w col' w') (hpq:∀ c,q c=false→p c=false):Zu q col w col' w':=
 ⟨h.size,fun k b f=>h.tint k b (hpq _ f),fun k b f=>h.block k b (hpq _ f),h.still⟩
theorem X9.toP (h:X9 c col w col' w') (hs:Ym w w') (hp:p c=true):Zu p col w col' w':=
 ⟨h.size,fun k b _=>h.tint k b,fun k b f=>h.block k b (by intro g;rw [g,hp] at f;cases f),hs⟩
theorem Zh.toP (h:Zh col w col' w'):Zu p col w col' w':=
 ⟨h.below.size,fun k b _=>h.tint k b,fun k b _=>h.below.block k b,⟨h.below.os,h.below.tape,h.below.output⟩⟩
theorem Zu.gr (h:Zu p col w col' w') (hg:Zh col' w' col'' w''):Zu p col w col'' w'':=h.trans hg.toP
theorem Zu.kp (h:Zu p col w col' w') (hk:X9 c col' w' col'' w'') (hs:Ym w' w'') (hp:p c=true):Zu p col w col'' w'':=h.trans (hk.toP hs hp)
theorem Zu.recol0 (p:Nat→Bool) (c d:Nat) (hp:p c=true) (col:Ze) (w:World):Zu p col w (Xy c d col) w:=
 ⟨aY _,fun k _ b=>Zea fun f=>by rw [f,hp] at b;exact absurd b (by decide),fun _ _ _=>rfl,Ym.refl _⟩
theorem Zu.froz0 (p:Nat→Bool) (c:Nat) (hp:p c=true) (col:Ze) (w:World):Zu p col w (Y0 c col) w:=
 ⟨aY _,fun k _ b=>Zv3 fun f=>by rw [f,hp] at b;exact absurd b (by decide),fun _ _ _=>rfl,Ym.refl _⟩
theorem Zu.recol (c d:Nat) (h:Zu p col w col' w') (hp:p c=true):Zu p col w (Xy c d col') w':=h.trans (Zu.recol0 p c d hp _ _)
theorem Zu.stay (h:Zu p col w col' w') (h0:p 0=false):Zi col w col' w':=
 fun k f b=>⟨(h.tint k f (by rw [b];exact h0)).trans b,h.block k f (by rw [b];exact h0)⟩
theorem St.kpp {w0:World} {c0:Ze} (h:St w0 c0 col w) (hk:Zu p col w col' w') (h0:p 0=false:=by rfl) (h9:p 999=false:=by rfl):St w0 c0 col' w':=by
 refine ⟨h.still.trans hk.still,aU h.size hk.size,fun k f j=>?_,h.foreign⟩
 obtain ⟨l,n⟩:=h.old k f j
 have b:=h.foreign k f
 have m:p (col k)=false:=by
  rw [l];rcases b with b | b | b
  ·rw [b];exact h0
  ·rw [b];exact h9
  ·rw [j] at b;cases b
 have g:=aF f h.size
 exact ⟨(hk.tint k g m).trans l,(hk.block k g m).trans n⟩
theorem St.froz {w0:World} {c0:Ze} (c:Nat) (h:St w0 c0 col w) (hc:c≠0) (h9:c≠999):St w0 c0 (Y0 c col) w:=
 h.kpp (Zu.froz0 (p1 c) c (Zro c) _ _) (Zod (Ne.symm hc)) (Zod (Ne.symm h9))
theorem St.recol {w0:World} {c0:Ze} (c d:Nat) (h:St w0 c0 col w) (hc:c≠0) (h9:c≠999):St w0 c0 (Xy c d col) w:=
 h.kpp (Zu.recol0 (p1 c) c d (Zro c) _ _) (Zod (Ne.symm hc)) (Zod (Ne.symm h9))

def U7 (i:Nat) (F:Ze→World→Prop):Prop:=∀ {col w col' w'},F col w→w.heap.size≤w'.heap.size→Zi col w col' w'→(∀ k,k<w.heap.size→col k=i→col' k=i∧w'.heap[k]?=w.heap[k]?)→F col' w'

variable {F:Ze→World→Prop}
theorem U7.kp (hl:U7 i F) (h:F col w) (hk:X9 c col w col' w') (hc:c≠0) (hi:i≠c):F col' w':=
 hl h hk.size (hk.stay hc) fun k b f=>⟨(hk.tint k b).trans f,hk.block k b (by rw [f];exact hi)⟩
theorem U7.gr (hl:U7 i F) (h:F col w) (hg:Zh col w col' w'):F col' w':=hl.kp h (hg.keep (i+1)) (by omega) (by omega)
theorem U7.kpp (hl:U7 i F) (h:F col w) (hk:Zu p col w col' w') (h0:p 0=false) (hi:p i=false):F col' w':=
 hl h hk.size (hk.stay h0) fun k f b=>⟨(hk.tint k f (by rw [b];exact hi)).trans b,hk.block k f (by rw [b];exact hi)⟩
theorem U7.froz (hl:U7 i F) (c:Nat) (h:F col w) (hi:i≠c):F (Y0 c col) w:=
 hl h (aY _) (fun k _ f=>⟨by unfold Y0;split <;> simp_all,rfl⟩) fun k _ b=>⟨by rw [Zv3 (by rw [b];exact hi),b],rfl⟩
theorem U7.recol (hl:U7 i F) (c d:Nat) (hc:i≠c∧c≠0) (h:F col w):F (Xy c d col) w:=
 hl h (aY _) (fun k _ b=>⟨by rw [Zea (by rw [b];exact Ne.symm hc.2),b],rfl⟩) fun k _ f=>⟨by rw [Zea (by rw [f];exact hc.1),f],rfl⟩
end

section
variable {α:Type} {r:Za α} {e c d i:Nat} {col col':Ze} {w w':World} {xs:List α} {a:Option Addr} {cap:Nat} {p:Nat→Bool} {bs:List Nat} {cs:List Value} {x:α}

theorem X4.loc (hlt:∀ b ∈ bs,b<w.heap.size) (h:X4 i col bs) (hk:∀ k,k<w.heap.size→col k=i→col' k=i∧w'.heap[k]?=w.heap[k]?):X4 i col' bs:=⟨h.1,fun b f=>(hk b (hlt b f) (h.2 b f)).1⟩
theorem X7.loc:U7 i (fun col w=>X7 r i col w cs x):=fun ⟨bs,f,g⟩ _ l j=>⟨bs,r.keep f l fun b k=>(j b (r.lt f b k) (g.2 b k)).2,g.loc (r.lt f) j⟩
theorem Zb.loc:U7 i (fun col w=>Zb r e i col w a cap xs):=fun ⟨bs,f,g⟩ _ l j=>⟨bs,f.keep l fun b k=>(j b (f.lt b k) (g.2 b k)).2,g.loc f.lt j⟩
theorem Zf.loc {g:Nat} {cs:Array Value}:U7 i (fun col w=>Zf e i col w g cs):=fun h _ _ b=>by
 obtain ⟨f,j⟩:=b _ (Array.getElem?_eq_some_iff.1 h.2).1 h.1
 exact ⟨f,j.trans h.2⟩
theorem Zb.kpp (h:Zb r e i col w a cap xs) (hk:Zu p col w col' w') (h0:p 0=false:=by rfl) (hi:p i=false:=by rfl):Zb r e i col' w' a cap xs:=Zb.loc.kpp h hk h0 hi
theorem Zf.kpp {g:Nat} {cs:Array Value} (h:Zf e i col w g cs) (hk:Zu p col w col' w') (hi:p i=false:=by rfl):Zf e i col' w' g cs:=by
 have b:=(Array.getElem?_eq_some_iff.1 h.2).1
 exact ⟨(hk.tint g b (by rw [h.1];exact hi)).trans h.1,by rw [hk.block g b (by rw [h.1];exact hi)];exact h.2⟩
theorem Sl.kpp (h:Sl r col w a cap xs) (hk:Zu p col w col' w') (h0:p 0=false:=by rfl):Sl r col' w' a cap xs:=h.keep (hk.stay h0)

theorem Zi.froz (c:Nat):Zi col w (Y0 c col) w:=fun k _ h=>⟨by unfold Y0;split <;> simp_all,rfl⟩
theorem Zi.recol (c d:Nat) (hc:c≠0):Zi col w (Xy c d col) w:=fun k _ h=>⟨by rw [Zea (by rw [h];exact Ne.symm hc),h],rfl⟩
theorem Sl.froz (c:Nat) (h:Sl r col w a cap xs):Sl r (Y0 c col) w a cap xs:=h.keep (Zi.froz c)
theorem Sl.recol (c d:Nat) (hc:c≠0) (h:Sl r col w a cap xs):Sl r (Xy c d col) w a cap xs:=h.keep (Zi.recol c d hc)
theorem Zb.froz (c:Nat) (h:Zb r e i col w a cap xs) (hi:i≠c):Zb r e i (Y0 c col) w a cap xs:=Zb.loc.froz c h hi
theorem Zf.froz {g:Nat} {cs:Array Value} (c:Nat) (h:Zf e i col w g cs) (hi:i≠c):Zf e i (Y0 c col) w g cs:=Zf.loc.froz c h hi
theorem Zb.recol (c d:Nat) (hc:i≠c∧c≠0) (h:Zb r e i col w a cap xs):Zb r e i (Xy c d col) w a cap xs:=Zb.loc.recol c d hc h
theorem X7.recol (c d:Nat) (hc:i≠c∧c≠0) (h:X7 r i col w cs x):X7 r i (Xy c d col) w cs x:=X7.loc.recol c d hc h
theorem Zf.recol {g:Nat} {cs:Array Value} (c d:Nat) (hc:i≠c∧c≠0) (h:Zf e i col w g cs):Zf e i (Xy c d col) w g cs:=Zf.loc.recol c d hc h
theorem Zb.recolSelf (d:Nat) (hc:c≠0) (h:Zb r e c col w a cap xs):Zb r e d (Xy c d col) w a cap xs:=by
 obtain ⟨bs,g,f⟩:=h
 exact ⟨bs,g.keep (Zi.recol c d hc) fun _ _=>rfl,f.1,fun b j=>Zlm (f.2 b j)⟩
theorem Zb.toSlF {s:Za α} (hf:Zd r s) (h:Zb r e c col w a cap xs):Sl s (Y0 c col) w a cap xs:=h.slF hf fun k b=>by unfold Y0;split <;> simp_all
end
end Go.Proofs.YtkhnlgdenkikoaaGreat
