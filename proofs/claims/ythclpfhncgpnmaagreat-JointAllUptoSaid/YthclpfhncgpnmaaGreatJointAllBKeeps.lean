/-
  What stays true while the world turns: facts that hang on what stays and on blocks of one colour. Over any program.
-/
import Derived.Test.YthclpfhncgpnmaaGreatJointAllBMem
namespace Go.Proofs.YthclpfhncgpnmaaGreat
open Go Go.RowKit
open Nat renaming beq→aC,le_refl→bB,le_trans→bA,lt_of_lt_of_le→aJ
open Go.IntKind (i8 i16 i32 i64 u8 u16 u32 u64)

structure Z1 (p:Nat→Bool) (col:Zd) (w:World) (col':Zd) (w':World):Prop where
 size:w.heap.size≤w'.heap.size
 tint:∀ k,k<w.heap.size→p (col k)=false→col' k=col k
 block:∀ k,k<w.heap.size→p (col k)=false→w'.heap[k]?=w.heap[k]?
 still:X5 w w'

def Xr (c d:Nat) (col:Zd):Zd:=fun k=>if col k=c then d else col k
def Yo (c:Nat) (col:Zd):Zd:=fun k=>if col k=c then 0 else col k
def p1 (c:Nat):Nat→Bool:=fun k=>aC k c
def p2 (c d:Nat):Nat→Bool:=fun k=>aC k c||aC k d

section
variable {p q:Nat→Bool} {c d i:Nat} {col col' col'':Zd} {w w' w'':World}

theorem Zko {k:Nat} (h:col k=c):Xr c d col k=d:=by unfold Xr;rw [if_pos h]
theorem Zc9 {k:Nat} (h:col k≠c):Xr c d col k=col k:=by unfold Xr;rw [if_neg h]
theorem Zsm {k:Nat} (h:col k≠c):Yo c col k=col k:=by unfold Yo;rw [if_neg h]
theorem beqF (h:i≠c):aC i c=false:=by
 cases hb:aC i c
 ·rfl
 ·exact absurd (Nat.eq_of_beq_eq_true hb) h
theorem Zms (c:Nat):p1 c c=true:=by simp [p1]
theorem Zmr (h:i≠c):p1 c i=false:=beqF h
theorem Z1.refl (p:Nat→Bool) (col:Zd) (w:World):Z1 p col w col w:=⟨bB _,fun _ _ _=>rfl,fun _ _ _=>rfl,⟨rfl,rfl,rfl⟩⟩
theorem Z1.trans (h:Z1 p col w col' w') (k:Z1 p col' w' col'' w''):Z1 p col w col'' w'':=
 ⟨bA h.size k.size,fun i b f=>by
  have g:=h.tint i b f
  rw [k.tint i (aJ b h.size) (by rw [g];exact f),g],fun i b f=>by
  have g:=h.tint i b f
  rw [k.block i (aJ b h.size) (by rw [g];exact f),h.block i b f],
  ⟨k.still.1.trans h.still.1,k.still.2.1.trans h.still.2.1,k.still.2.2.trans h.still.2.2⟩⟩
theorem Z1.mono (h:Z1 p col w col' w') (hpq:∀ c,q c=false→p c=false):Z1 q col w col' w':=
 ⟨h.size,fun k b f=>h.tint k b (hpq _ f),fun k b f=>h.block k b (hpq _ f),h.still⟩
theorem Xu.toP (h:Xu c col w col' w') (hs:X5 w w') (hp:p c=true):Z1 p col w col' w':=
 ⟨h.size,fun k b _=>h.tint k b,fun k b f=>h.block k b (by intro g;rw [g,hp] at f;cases f),hs⟩
theorem Zk.toP (h:Zk col w col' w'):Z1 p col w col' w':=
 ⟨h.below.size,fun k b _=>h.tint k b,fun k b _=>h.below.block k b,⟨h.below.os,h.below.tape,h.below.output⟩⟩
theorem Z1.gr (h:Z1 p col w col' w') (hg:Zk col' w' col'' w''):Z1 p col w col'' w'':=h.trans hg.toP
theorem Z1.kp (h:Z1 p col w col' w') (hk:Xu c col' w' col'' w'') (hs:X5 w' w'') (hp:p c=true):Z1 p col w col'' w'':=h.trans (hk.toP hs hp)
theorem Z1.recol0 (p:Nat→Bool) (c d:Nat) (hp:p c=true) (col:Zd) (w:World):Z1 p col w (Xr c d col) w:=
 ⟨bB _,fun k _ b=>Zc9 fun f=>by rw [f,hp] at b;exact absurd b (by decide),fun _ _ _=>rfl,X5.refl _⟩
theorem Z1.froz0 (p:Nat→Bool) (c:Nat) (hp:p c=true) (col:Zd) (w:World):Z1 p col w (Yo c col) w:=
 ⟨bB _,fun k _ b=>Zsm fun f=>by rw [f,hp] at b;exact absurd b (by decide),fun _ _ _=>rfl,X5.refl _⟩
theorem Z1.recol (c d:Nat) (h:Z1 p col w col' w') (hp:p c=true):Z1 p col w (Xr c d col') w':=h.trans (Z1.recol0 p c d hp _ _)
theorem Z1.stay (h:Z1 p col w col' w') (h0:p 0=false):X8 col w col' w':=
 fun k f b=>⟨(h.tint k f (by rw [b];exact h0)).trans b,h.block k f (by rw [b];exact h0)⟩
theorem St.kpp {w0:World} {c0:Zd} (h:St w0 c0 col w) (hk:Z1 p col w col' w') (h0:p 0=false:=by rfl) (h9:p 999=false:=by rfl):St w0 c0 col' w':=by
 refine ⟨h.still.trans hk.still,bA h.size hk.size,fun k f j=>?_,h.foreign⟩
 obtain ⟨l,n⟩:=h.old k f j
 have b:=h.foreign k f
 have m:p (col k)=false:=by
  rw [l];rcases b with b | b | b
  ·rw [b];exact h0
  ·rw [b];exact h9
  ·rw [j] at b;cases b
 have g:=aJ f h.size
 exact ⟨(hk.tint k g m).trans l,(hk.block k g m).trans n⟩
theorem St.froz {w0:World} {c0:Zd} (c:Nat) (h:St w0 c0 col w) (hc:c≠0) (h9:c≠999):St w0 c0 (Yo c col) w:=
 h.kpp (Z1.froz0 (p1 c) c (Zms c) _ _) (Zmr (Ne.symm hc)) (Zmr (Ne.symm h9))
theorem St.recol {w0:World} {c0:Zd} (c d:Nat) (h:St w0 c0 col w) (hc:c≠0) (h9:c≠999):St w0 c0 (Xr c d col) w:=
 h.kpp (Z1.recol0 (p1 c) c d (Zms c) _ _) (Zmr (Ne.symm hc)) (Zmr (Ne.symm h9))

def Um (i:Nat) (F:Zd→World→Prop):Prop:=∀ {col w col' w'},F col w→w.heap.size≤w'.heap.size→X8 col w col' w'→(∀ k,k<w.heap.size→col k=i→col' k=i∧w'.heap[k]?=w.heap[k]?)→F col' w'

variable {F:Zd→World→Prop}
theorem Um.kp (hl:Um i F) (h:F col w) (hk:Xu c col w col' w') (hc:c≠0) (hi:i≠c):F col' w':=
 hl h hk.size (hk.stay hc) fun k b f=>⟨(hk.tint k b).trans f,hk.block k b (by rw [f];exact hi)⟩
theorem Um.gr (hl:Um i F) (h:F col w) (hg:Zk col w col' w'):F col' w':=hl.kp h (hg.keep (i+1)) (by omega) (by omega)
theorem Um.kpp (hl:Um i F) (h:F col w) (hk:Z1 p col w col' w') (h0:p 0=false) (hi:p i=false):F col' w':=
 hl h hk.size (hk.stay h0) fun k f b=>⟨(hk.tint k f (by rw [b];exact hi)).trans b,hk.block k f (by rw [b];exact hi)⟩
theorem Um.froz (hl:Um i F) (c:Nat) (h:F col w) (hi:i≠c:=by decide):F (Yo c col) w:=
 hl h (bB _) (fun k _ f=>⟨by unfold Yo;split <;> simp_all,rfl⟩) fun k _ b=>⟨by rw [Zsm (by rw [b];exact hi),b],rfl⟩
theorem Um.recol (hl:Um i F) (c d:Nat) (hc:i≠c∧c≠0:=by decide) (h:F col w):F (Xr c d col) w:=
 hl h (bB _) (fun k _ b=>⟨by rw [Zc9 (by rw [b];exact Ne.symm hc.2),b],rfl⟩) fun k _ f=>⟨by rw [Zc9 (by rw [f];exact hc.1),f],rfl⟩
end

section
variable {α:Type} {r:Za α} {e c d i:Nat} {col col':Zd} {w w':World} {xs:List α} {a:Option Addr} {cap:Nat} {p:Nat→Bool} {bs:List Nat} {cs:List Value} {x:α}

theorem Xv.loc (hlt:∀ b ∈ bs,b<w.heap.size) (h:Xv i col bs) (hk:∀ k,k<w.heap.size→col k=i→col' k=i∧w'.heap[k]?=w.heap[k]?):Xv i col' bs:=⟨h.1,fun b f=>(hk b (hlt b f) (h.2 b f)).1⟩
theorem Zb.loc:Um i (fun col w=>Zb r e i col w a cap xs):=fun ⟨bs,f,g⟩ _ l j=>⟨bs,f.keep l fun b k=>(j b (f.lt b k) (g.2 b k)).2,g.loc f.lt j⟩
theorem Ze.loc {g:Nat} {cs:Array Value}:Um i (fun col w=>Ze e i col w g cs):=fun h _ _ b=>by
 obtain ⟨f,j⟩:=b _ (Array.getElem?_eq_some_iff.1 h.2).1 h.1
 exact ⟨f,j.trans h.2⟩
theorem Zb.kpp (h:Zb r e i col w a cap xs) (hk:Z1 p col w col' w') (h0:p 0=false:=by rfl) (hi:p i=false:=by rfl):Zb r e i col' w' a cap xs:=Zb.loc.kpp h hk h0 hi
theorem Ze.kpp {g:Nat} {cs:Array Value} (h:Ze e i col w g cs) (hk:Z1 p col w col' w') (hi:p i=false:=by rfl):Ze e i col' w' g cs:=by
 have b:=(Array.getElem?_eq_some_iff.1 h.2).1
 exact ⟨(hk.tint g b (by rw [h.1];exact hi)).trans h.1,by rw [hk.block g b (by rw [h.1];exact hi)];exact h.2⟩
theorem Sl.kpp (h:Sl r col w a cap xs) (hk:Z1 p col w col' w') (h0:p 0=false:=by rfl):Sl r col' w' a cap xs:=h.keep (hk.stay h0)

theorem X8.froz (c:Nat):X8 col w (Yo c col) w:=fun k _ h=>⟨by unfold Yo;split <;> simp_all,rfl⟩
theorem X8.recol (c d:Nat) (hc:c≠0):X8 col w (Xr c d col) w:=fun k _ h=>⟨by rw [Zc9 (by rw [h];exact Ne.symm hc),h],rfl⟩
theorem Sl.froz (c:Nat) (h:Sl r col w a cap xs):Sl r (Yo c col) w a cap xs:=h.keep (X8.froz c)
theorem Sl.recol (c d:Nat) (hc:c≠0:=by decide) (h:Sl r col w a cap xs):Sl r (Xr c d col) w a cap xs:=h.keep (X8.recol c d hc)
theorem Zb.froz (c:Nat) (h:Zb r e i col w a cap xs) (hi:i≠c:=by decide):Zb r e i (Yo c col) w a cap xs:=Zb.loc.froz c h hi
theorem Ze.froz {g:Nat} {cs:Array Value} (c:Nat) (h:Ze e i col w g cs) (hi:i≠c:=by decide):Ze e i (Yo c col) w g cs:=Ze.loc.froz c h hi
theorem Zb.recol (c d:Nat) (hc:i≠c∧c≠0:=by decide) (h:Zb r e i col w a cap xs):Zb r e i (Xr c d col) w a cap xs:=Zb.loc.recol c d hc h
theorem Ze.recol {g:Nat} {cs:Array Value} (c d:Nat) (hc:i≠c∧c≠0:=by decide) (h:Ze e i col w g cs):Ze e i (Xr c d col) w g cs:=Ze.loc.recol c d hc h
theorem Zb.recolSelf (d:Nat) (hc:c≠0) (h:Zb r e c col w a cap xs):Zb r e d (Xr c d col) w a cap xs:=by
 obtain ⟨bs,g,f⟩:=h
 exact ⟨bs,g.keep (X8.recol c d hc) fun _ _=>rfl,f.1,fun b j=>Zko (f.2 b j)⟩
theorem Zb.toSlF {s:Za α} (hf:Zm r s) (h:Zb r e c col w a cap xs):Sl s (Yo c col) w a cap xs:=h.slF hf fun k b=>by unfold Yo;split <;> simp_all
end
end Go.Proofs.YthclpfhncgpnmaaGreat
