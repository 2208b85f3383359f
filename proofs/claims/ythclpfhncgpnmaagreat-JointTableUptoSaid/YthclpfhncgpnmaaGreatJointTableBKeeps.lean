/-
  What stays true while the world turns: facts that hang on what stays and on blocks of one colour. Over any program.
-/
import Derived.Test.YthclpfhncgpnmaaGreatJointTableBMem
namespace Go.Proofs.YthclpfhncgpnmaaGreat
open Go Go.RowKit
open Nat renaming beq→aJ,le_refl→bB,le_trans→aY,lt_of_lt_of_le→aK
open Go.IntKind (i8 i16 i32 i64 u8 u16 u32 u64)

structure Z5 (p:Nat→Bool) (col:Zd) (w:World) (col':Zd) (w':World):Prop where
 size:w.heap.size≤w'.heap.size
 tint:∀ k,k<w.heap.size→p (col k)=false→col' k=col k
 block:∀ k,k<w.heap.size→p (col k)=false→w'.heap[k]?=w.heap[k]?
 still:Ya w w'

def X7 (c d:Nat) (col:Zd):Zd:=fun k=>if col k=c then d else col k
def X5 (c:Nat) (col:Zd):Zd:=fun k=>if col k=c then 0 else col k
def p1 (c:Nat):Nat→Bool:=fun k=>aJ k c
def p2 (c d:Nat):Nat→Bool:=fun k=>aJ k c||aJ k d

section
variable {p q:Nat→Bool} {c d i:Nat} {col col' col'':Zd} {w w' w'':World}

theorem Zmf {k:Nat} (h:col k=c):X7 c d col k=d:=by unfold X7;rw [if_pos h]
theorem Zef {k:Nat} (h:col k≠c):X7 c d col k=col k:=by unfold X7;rw [if_neg h]
theorem Zvg {k:Nat} (h:col k≠c):X5 c col k=col k:=by unfold X5;rw [if_neg h]
theorem Zpv (h:i≠c):aJ i c=false:=by
 cases hb:aJ i c
 ·rfl
 ·exact absurd (Nat.eq_of_beq_eq_true hb) h
theorem Zow (c:Nat):p1 c c=true:=by simp [p1]
theorem Zov (h:i≠c):p1 c i=false:=Zpv h
theorem Z8h (h:i≠c) (h':i≠d):p2 c d i=false:=by simp only [p2,Bool.or_eq_false_iff];exact ⟨Zpv h,Zpv h'⟩

theorem Z5.refl (p:Nat→Bool) (col:Zd) (w:World):Z5 p col w col w:=⟨bB _,fun _ _ _=>rfl,fun _ _ _=>rfl,⟨rfl,rfl,rfl⟩⟩
theorem Z5.trans (h:Z5 p col w col' w') (k:Z5 p col' w' col'' w''):Z5 p col w col'' w'':=
 ⟨aY h.size k.size,fun i b f=>by
  have g:=h.tint i b f
  rw [k.tint i (aK b h.size) (by rw [g];exact f),g],fun i b f=>by
  have g:=h.tint i b f
  rw [k.block i (aK b h.size) (by rw [g];exact f),h.block i b f],
  ⟨k.still.1.trans h.still.1,k.still.2.1.trans h.still.2.1,k.still.2.2.trans h.still.2.2⟩⟩
theorem Z5.mono (h:Z5 p col w col' w') (hpq:∀ c,q c=false→p c=false):Z5 q col w col' w':=
 ⟨h.size,fun k b f=>h.tint k b (hpq _ f),fun k b f=>h.block k b (hpq _ f),h.still⟩
theorem X3.toP (h:X3 c col w col' w') (hs:Ya w w') (hp:p c=true):Z5 p col w col' w':=
 ⟨h.size,fun k b _=>h.tint k b,fun k b f=>h.block k b (by intro g;rw [g,hp] at f;cases f),hs⟩
theorem Zn.toP (h:Zn col w col' w'):Z5 p col w col' w':=
 ⟨h.below.size,fun k b _=>h.tint k b,fun k b _=>h.below.block k b,⟨h.below.os,h.below.tape,h.below.output⟩⟩
theorem Z5.gr (h:Z5 p col w col' w') (hg:Zn col' w' col'' w''):Z5 p col w col'' w'':=h.trans hg.toP
theorem Z5.kp (h:Z5 p col w col' w') (hk:X3 c col' w' col'' w'') (hs:Ya w' w'') (hp:p c=true):Z5 p col w col'' w'':=h.trans (hk.toP hs hp)
theorem Z5.recol0 (p:Nat→Bool) (c d:Nat) (hp:p c=true) (col:Zd) (w:World):Z5 p col w (X7 c d col) w:=
 ⟨bB _,fun k _ b=>Zef fun f=>by rw [f,hp] at b;exact absurd b (by decide),fun _ _ _=>rfl,Ya.refl _⟩
theorem Z5.froz0 (p:Nat→Bool) (c:Nat) (hp:p c=true) (col:Zd) (w:World):Z5 p col w (X5 c col) w:=
 ⟨bB _,fun k _ b=>Zvg fun f=>by rw [f,hp] at b;exact absurd b (by decide),fun _ _ _=>rfl,Ya.refl _⟩
theorem Z5.recol (c d:Nat) (h:Z5 p col w col' w') (hp:p c=true):Z5 p col w (X7 c d col') w':=h.trans (Z5.recol0 p c d hp _ _)
theorem Z5.froz (c:Nat) (h:Z5 p col w col' w') (hp:p c=true):Z5 p col w (X5 c col') w':=h.trans (Z5.froz0 p c hp _ _)
theorem Z5.stay (h:Z5 p col w col' w') (h0:p 0=false):Yg col w col' w':=
 fun k f b=>⟨(h.tint k f (by rw [b];exact h0)).trans b,h.block k f (by rw [b];exact h0)⟩
theorem St.kpp {w0:World} {c0:Zd} (h:St w0 c0 col w) (hk:Z5 p col w col' w') (h0:p 0=false:=by rfl) (h9:p 999=false:=by rfl):St w0 c0 col' w':=by
 refine ⟨h.still.trans hk.still,aY h.size hk.size,fun k f j=>?_,h.foreign⟩
 obtain ⟨l,n⟩:=h.old k f j
 have b:=h.foreign k f
 have m:p (col k)=false:=by
  rw [l];rcases b with b | b | b
  ·rw [b];exact h0
  ·rw [b];exact h9
  ·rw [j] at b;cases b
 have g:=aK f h.size
 exact ⟨(hk.tint k g m).trans l,(hk.block k g m).trans n⟩
theorem St.froz {w0:World} {c0:Zd} (c:Nat) (h:St w0 c0 col w) (hc:c≠0) (h9:c≠999):St w0 c0 (X5 c col) w:=
 h.kpp (Z5.froz0 (p1 c) c (Zow c) _ _) (Zov (Ne.symm hc)) (Zov (Ne.symm h9))
theorem St.recol {w0:World} {c0:Zd} (c d:Nat) (h:St w0 c0 col w) (hc:c≠0) (h9:c≠999):St w0 c0 (X7 c d col) w:=
 h.kpp (Z5.recol0 (p1 c) c d (Zow c) _ _) (Zov (Ne.symm hc)) (Zov (Ne.symm h9))

def U4 (i:Nat) (F:Zd→World→Prop):Prop:=∀ {col w col' w'},F col w→w.heap.size≤w'.heap.size→Yg col w col' w'→(∀ k,k<w.heap.size→col k=i→col' k=i∧w'.heap[k]?=w.heap[k]?)→F col' w'

variable {F:Zd→World→Prop}
theorem U4.kp (hl:U4 i F) (h:F col w) (hk:X3 c col w col' w') (hc:c≠0) (hi:i≠c):F col' w':=
 hl h hk.size (hk.stay hc) fun k b f=>⟨(hk.tint k b).trans f,hk.block k b (by rw [f];exact hi)⟩
theorem U4.gr (hl:U4 i F) (h:F col w) (hg:Zn col w col' w'):F col' w':=hl.kp h (hg.keep (i+1)) (by omega) (by omega)
theorem U4.kpp (hl:U4 i F) (h:F col w) (hk:Z5 p col w col' w') (h0:p 0=false) (hi:p i=false):F col' w':=
 hl h hk.size (hk.stay h0) fun k f b=>⟨(hk.tint k f (by rw [b];exact hi)).trans b,hk.block k f (by rw [b];exact hi)⟩
theorem U4.froz (hl:U4 i F) (c:Nat) (h:F col w) (hi:i≠c:=by decide):F (X5 c col) w:=
 hl h (bB _) (fun k _ f=>⟨by unfold X5;split <;> simp_all,rfl⟩) fun k _ b=>⟨by rw [Zvg (by rw [b];exact hi),b],rfl⟩
theorem U4.recol (hl:U4 i F) (c d:Nat) (hc:i≠c∧c≠0:=by decide) (h:F col w):F (X7 c d col) w:=
 hl h (bB _) (fun k _ b=>⟨by rw [Zef (by rw [b];exact Ne.symm hc.2),b],rfl⟩) fun k _ f=>⟨by rw [Zef (by rw [f];exact hc.1),f],rfl⟩
end

section
variable {α:Type} {r:Za α} {e c d i:Nat} {col col':Zd} {w w':World} {xs:List α} {a:Option Addr} {cap:Nat} {p:Nat→Bool} {bs:List Nat} {cs:List Value} {x:α}

theorem X1.loc (hlt:∀ b ∈ bs,b<w.heap.size) (h:X1 i col bs) (hk:∀ k,k<w.heap.size→col k=i→col' k=i∧w'.heap[k]?=w.heap[k]?):X1 i col' bs:=⟨h.1,fun b f=>(hk b (hlt b f) (h.2 b f)).1⟩
theorem Zc.loc:U4 i (fun col w=>Zc r e i col w a cap xs):=fun ⟨bs,f,g⟩ _ l j=>⟨bs,f.keep l fun b k=>(j b (f.lt b k) (g.2 b k)).2,g.loc f.lt j⟩
theorem Zj.loc {g:Nat} {cs:Array Value}:U4 i (fun col w=>Zj e i col w g cs):=fun h _ _ b=>by
 obtain ⟨f,j⟩:=b _ (Array.getElem?_eq_some_iff.1 h.2).1 h.1
 exact ⟨f,j.trans h.2⟩
theorem Zc.kpp (h:Zc r e i col w a cap xs) (hk:Z5 p col w col' w') (h0:p 0=false:=by rfl) (hi:p i=false:=by rfl):Zc r e i col' w' a cap xs:=Zc.loc.kpp h hk h0 hi
theorem Zj.kpp {g:Nat} {cs:Array Value} (h:Zj e i col w g cs) (hk:Z5 p col w col' w') (hi:p i=false:=by rfl):Zj e i col' w' g cs:=by
 have b:=(Array.getElem?_eq_some_iff.1 h.2).1
 exact ⟨(hk.tint g b (by rw [h.1];exact hi)).trans h.1,by rw [hk.block g b (by rw [h.1];exact hi)];exact h.2⟩
theorem Sl.kpp (h:Sl r col w a cap xs) (hk:Z5 p col w col' w') (h0:p 0=false:=by rfl):Sl r col' w' a cap xs:=h.keep (hk.stay h0)

theorem Yg.froz (c:Nat):Yg col w (X5 c col) w:=fun k _ h=>⟨by unfold X5;split <;> simp_all,rfl⟩
theorem Yg.recol (c d:Nat) (hc:c≠0):Yg col w (X7 c d col) w:=fun k _ h=>⟨by rw [Zef (by rw [h];exact Ne.symm hc),h],rfl⟩
theorem Sl.froz (c:Nat) (h:Sl r col w a cap xs):Sl r (X5 c col) w a cap xs:=h.keep (Yg.froz c)
theorem Sl.recol (c d:Nat) (hc:c≠0:=by decide) (h:Sl r col w a cap xs):Sl r (X7 c d col) w a cap xs:=h.keep (Yg.recol c d hc)
theorem Zc.froz (c:Nat) (h:Zc r e i col w a cap xs) (hi:i≠c:=by decide):Zc r e i (X5 c col) w a cap xs:=Zc.loc.froz c h hi
theorem Zj.froz {g:Nat} {cs:Array Value} (c:Nat) (h:Zj e i col w g cs) (hi:i≠c:=by decide):Zj e i (X5 c col) w g cs:=Zj.loc.froz c h hi
theorem Zc.recol (c d:Nat) (hc:i≠c∧c≠0:=by decide) (h:Zc r e i col w a cap xs):Zc r e i (X7 c d col) w a cap xs:=Zc.loc.recol c d hc h
theorem Zj.recol {g:Nat} {cs:Array Value} (c d:Nat) (hc:i≠c∧c≠0:=by decide) (h:Zj e i col w g cs):Zj e i (X7 c d col) w g cs:=Zj.loc.recol c d hc h
theorem Zc.recolSelf (d:Nat) (hc:c≠0) (h:Zc r e c col w a cap xs):Zc r e d (X7 c d col) w a cap xs:=by
 obtain ⟨bs,g,f⟩:=h
 exact ⟨bs,g.keep (Yg.recol c d hc) fun _ _=>rfl,f.1,fun b j=>Zmf (f.2 b j)⟩
theorem Zc.toSlF {s:Za α} (hf:Zh r s) (h:Zc r e c col w a cap xs):Sl s (X5 c col) w a cap xs:=h.slF hf fun k b=>by unfold X5;split <;> simp_all
end
end Go.Proofs.YthclpfhncgpnmaaGreat
