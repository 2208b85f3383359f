/-
  What stays true while the world turns: facts that hang on what stays and on blocks of one colour. Over any program.
-/
import Derived.Test.YtpkknichfgooaaaGreatTopBitsBMem
namespace Go.Proofs.YtpkknichfgooaaaGreat
open Go Go.RowKit
open Nat renaming beq→aH,le_refl→aV,le_trans→aN,lt_of_lt_of_le→aG
open Go.IntKind (i8 i16 i32 i64 u8 u16 u32 u64)

structure Zu (p:Nat→Bool) (col:Zg) (w:World) (col':Zg) (w':World):Prop where
 size:w.heap.size≤w'.heap.size
 tint:∀ k,k<w.heap.size→p (col k)=false→col' k=col k
 block:∀ k,k<w.heap.size→p (col k)=false→w'.heap[k]?=w.heap[k]?
 still:Yn w w'

def Xq (c d:Nat) (col:Zg):Zg:=fun k=>if col k=c then d else col k
def Xg (c:Nat) (col:Zg):Zg:=fun k=>if col k=c then 0 else col k
def p1 (c:Nat):Nat→Bool:=fun k=>aH k c
def p2 (c d:Nat):Nat→Bool:=fun k=>aH k c||aH k d

section
variable {p q:Nat→Bool} {c d i:Nat} {col col' col'':Zg} {w w' w'':World}

theorem Zp2 {k:Nat} (h:col k=c):Xq c d col k=d:=by unfold Xq;rw [if_pos h]
theorem Zg4 {k:Nat} (h:col k≠c):Xq c d col k=col k:=by unfold Xq;rw [if_neg h]
theorem Zxk {k:Nat} (h:col k≠c):Xg c col k=col k:=by unfold Xg;rw [if_neg h]
theorem Zqp (h:i≠c):aH i c=false:=by
 cases hb:aH i c
 ·rfl
 ·exact absurd (Nat.eq_of_beq_eq_true hb) h
theorem Zsu (c:Nat):p1 c c=true:=by simp [p1]
theorem Zm0 (h:i≠c):p1 c i=false:=Zqp h
theorem Z9c (h:i≠c) (h':i≠d):p2 c d i=false:=by simp only [p2,Bool.or_eq_false_iff];exact ⟨Zqp h,Zqp h'⟩

theorem Zu.refl (p:Nat→Bool) (col:Zg) (w:World):Zu p col w col w:=⟨aV _,fun _ _ _=>rfl,fun _ _ _=>rfl,⟨rfl,rfl,rfl⟩⟩
theorem Zu.trans (h:Zu p col w col' w') (k:Zu p col' w' col'' w''):Zu p col w col'' w'':=
 ⟨aN h.size k.size,fun i b f=>by
  have g:=h.tint i b f
  rw [k.tint i (aG b h.size) (by rw [g];exact f),g],fun i b f=>by
  have g:=h.tint i b f
  rw [k.block i (aG b h.size) (by rw [g];exact f),h.block i b f],
  ⟨k.still.1.trans h.still.1,k.still.2.1.trans h.still.2.1,k.still.2.2.trans h.still.2.2⟩⟩
theorem Zu.mono (h:Zu p col w col' w') (hpq:∀ c,q c=false→p c=false):Zu q col w col' w':=
 ⟨h.size,fun k b f=>h.tint k b (hpq _ f),fun k b f=>h.block k b (hpq _ f),h.still⟩
theorem Yh.toP (h:Yh c col w col' w') (hs:Yn w w') (hp:p c=true):Zu p col w col' w':=
 ⟨h.size,fun k b _=>h.tint k b,fun k b f=>h.block k b (by intro g;rw [g,hp] at f;cases f),hs⟩
theorem Zl.toP (h:Zl col w col' w'):Zu p col w col' w':=
 ⟨h.below.size,fun k b _=>h.tint k b,fun k b _=>h.below.block k b,⟨h.below.os,h.below.tape,h.below.output⟩⟩
theorem Zu.gr (h:Zu p col w col' w') (hg:Zl col' w' col'' w''):Zu p col w col'' w'':=h.trans hg.toP
theorem Zu.kp (h:Zu p col w col' w') (hk:Yh c col' w' col'' w'') (hs:Yn w' w'') (hp:p c=true):Zu p col w col'' w'':=h.trans (hk.toP hs hp)
theorem Zu.recol0 (p:Nat→Bool) (c d:Nat) (hp:p c=true) (col:Zg) (w:World):Zu p col w (Xq c d col) w:=
 ⟨aV _,fun k _ b=>Zg4 fun f=>by rw [f,hp] at b;exact absurd b (by decide),fun _ _ _=>rfl,Yn.refl _⟩
theorem Zu.froz0 (p:Nat→Bool) (c:Nat) (hp:p c=true) (col:Zg) (w:World):Zu p col w (Xg c col) w:=
 ⟨aV _,fun k _ b=>Zxk fun f=>by rw [f,hp] at b;exact absurd b (by decide),fun _ _ _=>rfl,Yn.refl _⟩
theorem Zu.recol (c d:Nat) (h:Zu p col w col' w') (hp:p c=true):Zu p col w (Xq c d col') w':=h.trans (Zu.recol0 p c d hp _ _)
theorem Zu.froz (c:Nat) (h:Zu p col w col' w') (hp:p c=true):Zu p col w (Xg c col') w':=h.trans (Zu.froz0 p c hp _ _)
theorem Zu.stay (h:Zu p col w col' w') (h0:p 0=false):Yu col w col' w':=
 fun k f b=>⟨(h.tint k f (by rw [b];exact h0)).trans b,h.block k f (by rw [b];exact h0)⟩
theorem St.kpp {w0:World} {c0:Zg} (h:St w0 c0 col w) (hk:Zu p col w col' w') (h0:p 0=false:=by rfl) (h9:p 999=false:=by rfl):St w0 c0 col' w':=by
 refine ⟨h.still.trans hk.still,aN h.size hk.size,fun k f j=>?_,h.foreign⟩
 obtain ⟨l,n⟩:=h.old k f j
 have b:=h.foreign k f
 have m:p (col k)=false:=by
  rw [l];rcases b with b | b | b
  ·rw [b];exact h0
  ·rw [b];exact h9
  ·rw [j] at b;cases b
 have g:=aG f h.size
 exact ⟨(hk.tint k g m).trans l,(hk.block k g m).trans n⟩
theorem St.froz {w0:World} {c0:Zg} (c:Nat) (h:St w0 c0 col w) (hc:c≠0) (h9:c≠999):St w0 c0 (Xg c col) w:=
 h.kpp (Zu.froz0 (p1 c) c (Zsu c) _ _) (Zm0 (Ne.symm hc)) (Zm0 (Ne.symm h9))
theorem St.recol {w0:World} {c0:Zg} (c d:Nat) (h:St w0 c0 col w) (hc:c≠0) (h9:c≠999):St w0 c0 (Xq c d col) w:=
 h.kpp (Zu.recol0 (p1 c) c d (Zsu c) _ _) (Zm0 (Ne.symm hc)) (Zm0 (Ne.symm h9))

def Tk (i:Nat) (F:Zg→World→Prop):Prop:=∀ {col w col' w'},F col w→w.heap.size≤w'.heap.size→Yu col w col' w'→(∀ k,k<w.heap.size→col k=i→col' k=i∧w'.heap[k]?=w.heap[k]?)→F col' w'

variable {F:Zg→World→Prop}
theorem Tk.kp (hl:Tk i F) (h:F col w) (hk:Yh c col w col' w') (hc:c≠0) (hi:i≠c):F col' w':=
 hl h hk.size (hk.stay hc) fun k b f=>⟨(hk.tint k b).trans f,hk.block k b (by rw [f];exact hi)⟩
theorem Tk.gr (hl:Tk i F) (h:F col w) (hg:Zl col w col' w'):F col' w':=hl.kp h (hg.keep (i+1)) (by omega) (by omega)
theorem Tk.kpp (hl:Tk i F) (h:F col w) (hk:Zu p col w col' w') (h0:p 0=false) (hi:p i=false):F col' w':=
 hl h hk.size (hk.stay h0) fun k f b=>⟨(hk.tint k f (by rw [b];exact hi)).trans b,hk.block k f (by rw [b];exact hi)⟩
theorem Tk.froz (hl:Tk i F) (c:Nat) (h:F col w) (hi:i≠c:=by decide):F (Xg c col) w:=
 hl h (aV _) (fun k _ f=>⟨by unfold Xg;split <;> simp_all,rfl⟩) fun k _ b=>⟨by rw [Zxk (by rw [b];exact hi),b],rfl⟩
theorem Tk.recol (hl:Tk i F) (c d:Nat) (hc:i≠c∧c≠0:=by decide) (h:F col w):F (Xq c d col) w:=
 hl h (aV _) (fun k _ b=>⟨by rw [Zg4 (by rw [b];exact Ne.symm hc.2),b],rfl⟩) fun k _ f=>⟨by rw [Zg4 (by rw [f];exact hc.1),f],rfl⟩
end

section
variable {α:Type} {r:Zc α} {e c d i:Nat} {col col':Zg} {w w':World} {xs:List α} {a:Option Addr} {cap:Nat} {p:Nat→Bool} {bs:List Nat} {cs:List Value} {x:α}

theorem X8.loc (hlt:∀ b ∈ bs,b<w.heap.size) (h:X8 i col bs) (hk:∀ k,k<w.heap.size→col k=i→col' k=i∧w'.heap[k]?=w.heap[k]?):X8 i col' bs:=⟨h.1,fun b f=>(hk b (hlt b f) (h.2 b f)).1⟩
theorem Ys.loc:Tk i (fun col w=>Ys r i col w cs x):=fun ⟨bs,f,g⟩ _ l j=>⟨bs,r.keep f l fun b k=>(j b (r.lt f b k) (g.2 b k)).2,g.loc (r.lt f) j⟩
theorem Zb.loc:Tk i (fun col w=>Zb r e i col w a cap xs):=fun ⟨bs,f,g⟩ _ l j=>⟨bs,f.keep l fun b k=>(j b (f.lt b k) (g.2 b k)).2,g.loc f.lt j⟩
theorem Zi.loc {g:Nat} {cs:Array Value}:Tk i (fun col w=>Zi e i col w g cs):=fun h _ _ b=>by
 obtain ⟨f,j⟩:=b _ (Array.getElem?_eq_some_iff.1 h.2).1 h.1
 exact ⟨f,j.trans h.2⟩
theorem Zb.kpp (h:Zb r e i col w a cap xs) (hk:Zu p col w col' w') (h0:p 0=false:=by rfl) (hi:p i=false:=by rfl):Zb r e i col' w' a cap xs:=Zb.loc.kpp h hk h0 hi
theorem Zi.kpp {g:Nat} {cs:Array Value} (h:Zi e i col w g cs) (hk:Zu p col w col' w') (hi:p i=false:=by rfl):Zi e i col' w' g cs:=by
 have b:=(Array.getElem?_eq_some_iff.1 h.2).1
 exact ⟨(hk.tint g b (by rw [h.1];exact hi)).trans h.1,by rw [hk.block g b (by rw [h.1];exact hi)];exact h.2⟩
theorem Sl.kpp (h:Sl r col w a cap xs) (hk:Zu p col w col' w') (h0:p 0=false:=by rfl):Sl r col' w' a cap xs:=h.keep (hk.stay h0)

theorem Yu.froz (c:Nat):Yu col w (Xg c col) w:=fun k _ h=>⟨by unfold Xg;split <;> simp_all,rfl⟩
theorem Yu.recol (c d:Nat) (hc:c≠0):Yu col w (Xq c d col) w:=fun k _ h=>⟨by rw [Zg4 (by rw [h];exact Ne.symm hc),h],rfl⟩
theorem Sl.froz (c:Nat) (h:Sl r col w a cap xs):Sl r (Xg c col) w a cap xs:=h.keep (Yu.froz c)
theorem Sl.recol (c d:Nat) (hc:c≠0:=by decide) (h:Sl r col w a cap xs):Sl r (Xq c d col) w a cap xs:=h.keep (Yu.recol c d hc)
theorem Zb.froz (c:Nat) (h:Zb r e i col w a cap xs) (hi:i≠c:=by decide):Zb r e i (Xg c col) w a cap xs:=Zb.loc.froz c h hi
theorem Zi.froz {g:Nat} {cs:Array Value} (c:Nat) (h:Zi e i col w g cs) (hi:i≠c:=by decide):Zi e i (Xg c col) w g cs:=Zi.loc.froz c h hi
theorem Zb.recol (c d:Nat) (hc:i≠c∧c≠0:=by decide) (h:Zb r e i col w a cap xs):Zb r e i (Xq c d col) w a cap xs:=Zb.loc.recol c d hc h
theorem Ys.recol (c d:Nat) (hc:i≠c∧c≠0:=by decide) (h:Ys r i col w cs x):Ys r i (Xq c d col) w cs x:=Ys.loc.recol c d hc h
theorem Zi.recol {g:Nat} {cs:Array Value} (c d:Nat) (hc:i≠c∧c≠0:=by decide) (h:Zi e i col w g cs):Zi e i (Xq c d col) w g cs:=Zi.loc.recol c d hc h
theorem Zb.recolSelf (d:Nat) (hc:c≠0) (h:Zb r e c col w a cap xs):Zb r e d (Xq c d col) w a cap xs:=by
 obtain ⟨bs,g,f⟩:=h
 exact ⟨bs,g.keep (Yu.recol c d hc) fun _ _=>rfl,f.1,fun b j=>Zp2 (f.2 b j)⟩
theorem Zb.toSlF {s:Zc α} (hf:Ze r s) (h:Zb r e c col w a cap xs):Sl s (Xg c col) w a cap xs:=h.slF hf fun k b=>by unfold Xg;split <;> simp_all
end
end Go.Proofs.YtpkknichfgooaaaGreat
