/-
  What stays true while the world turns: facts that hang on what stays and on blocks of one colour. Over any program.
-/
import Derived.Test.YthclpfhncgpnmaaGreatLearnStepBMem
namespace Go.Proofs.YthclpfhncgpnmaaGreat
open Go Go.RowKit
open Nat renaming beq→aP,le_refl→aX,le_trans→aT,lt_of_lt_of_le→aI
open Go.IntKind (i8 i16 i32 i64 u8 u16 u32 u64)

structure Zu (p:Nat→Bool) (col:Ze) (w:World) (col':Ze) (w':World):Prop where
 size:w.heap.size≤w'.heap.size
 tint:∀ k,k<w.heap.size→p (col k)=false→col' k=col k
 block:∀ k,k<w.heap.size→p (col k)=false→w'.heap[k]?=w.heap[k]?
 still:Yq w w'

def Xv (c d:Nat) (col:Ze):Ze:=fun k=>if col k=c then d else col k
def Ya (c:Nat) (col:Ze):Ze:=fun k=>if col k=c then 0 else col k
def p1 (c:Nat):Nat→Bool:=fun k=>aP k c
def p2 (c d:Nat):Nat→Bool:=fun k=>aP k c||aP k d

section
variable {p q:Nat→Bool} {c d i:Nat} {col col' col'':Ze} {w w' w'':World}

theorem Znu {k:Nat} (h:col k=c):Xv c d col k=d:=by unfold Xv;rw [if_pos h]
theorem Zfw {k:Nat} (h:col k≠c):Xv c d col k=col k:=by unfold Xv;rw [if_neg h]
theorem Zxj {k:Nat} (h:col k≠c):Ya c col k=col k:=by unfold Ya;rw [if_neg h]
theorem Zrs (h:i≠c):aP i c=false:=by
 cases hb:aP i c
 ·rfl
 ·exact absurd (Nat.eq_of_beq_eq_true hb) h
theorem Zqf (c:Nat):p1 c c=true:=by simp [p1]
theorem Zqe (h:i≠c):p1 c i=false:=Zrs h
theorem Xae (h:i≠c) (h':i≠d):p2 c d i=false:=by simp only [p2,Bool.or_eq_false_iff];exact ⟨Zrs h,Zrs h'⟩

theorem Zu.refl (p:Nat→Bool) (col:Ze) (w:World):Zu p col w col w:=⟨aX _,fun _ _ _=>rfl,fun _ _ _=>rfl,⟨rfl,rfl,rfl⟩⟩
theorem Zu.trans (h:Zu p col w col' w') (k:Zu p col' w' col'' w''):Zu p col w col'' w'':=
 ⟨aT h.size k.size,fun i b f=>by
  have g:=h.tint i b f
  rw [k.tint i (aI b h.size) (by rw [g];exact f),g],fun i b f=>by
  have g:=h.tint i b f
  rw [k.block i (aI b h.size) (by rw [g];exact f),h.block i b f],
  ⟨k.still.1.trans h.still.1,k.still.2.1.trans h.still.2.1,k.still.2.2.trans h.still.2.2⟩⟩
theorem Zu.mono (h:Zu p col w col' w') (hpq:∀ c,q c=false→p c=false):Zu q col w col' w':=
 ⟨h.size,fun k b f=>h.tint k b (hpq _ f),fun k b f=>h.block k b (hpq _ f),h.still⟩
theorem Yf.toP (h:Yf c col w col' w') (hs:Yq w w') (hp:p c=true):Zu p col w col' w':=
 ⟨h.size,fun k b _=>h.tint k b,fun k b f=>h.block k b (by intro g;rw [g,hp] at f;cases f),hs⟩
theorem Zj.toP (h:Zj col w col' w'):Zu p col w col' w':=
 ⟨h.below.size,fun k b _=>h.tint k b,fun k b _=>h.below.block k b,⟨h.below.os,h.below.tape,h.below.output⟩⟩
theorem Zu.gr (h:Zu p col w col' w') (hg:Zj col' w' col'' w''):Zu p col w col'' w'':=h.trans hg.toP
theorem Zu.kp (h:Zu p col w col' w') (hk:Yf c col' w' col'' w'') (hs:Yq w' w'') (hp:p c=true):Zu p col w col'' w'':=h.trans (hk.toP hs hp)
theorem Zu.recol0 (p:Nat→Bool) (c d:Nat) (hp:p c=true) (col:Ze) (w:World):Zu p col w (Xv c d col) w:=
 ⟨aX _,fun k _ b=>Zfw fun f=>by rw [f,hp] at b;exact absurd b (by decide),fun _ _ _=>rfl,Yq.refl _⟩
theorem Zu.froz0 (p:Nat→Bool) (c:Nat) (hp:p c=true) (col:Ze) (w:World):Zu p col w (Ya c col) w:=
 ⟨aX _,fun k _ b=>Zxj fun f=>by rw [f,hp] at b;exact absurd b (by decide),fun _ _ _=>rfl,Yq.refl _⟩
theorem Zu.recol (c d:Nat) (h:Zu p col w col' w') (hp:p c=true):Zu p col w (Xv c d col') w':=h.trans (Zu.recol0 p c d hp _ _)
theorem Zu.stay (h:Zu p col w col' w') (h0:p 0=false):X5 col w col' w':=
 fun k f b=>⟨(h.tint k f (by rw [b];exact h0)).trans b,h.block k f (by rw [b];exact h0)⟩
theorem St.kpp {w0:World} {c0:Ze} (h:St w0 c0 col w) (hk:Zu p col w col' w') (h0:p 0=false:=by rfl) (h9:p 999=false:=by rfl):St w0 c0 col' w':=by
 refine ⟨h.still.trans hk.still,aT h.size hk.size,fun k f j=>?_,h.foreign⟩
 obtain ⟨l,n⟩:=h.old k f j
 have b:=h.foreign k f
 have m:p (col k)=false:=by
  rw [l];rcases b with b | b | b
  ·rw [b];exact h0
  ·rw [b];exact h9
  ·rw [j] at b;cases b
 have g:=aI f h.size
 exact ⟨(hk.tint k g m).trans l,(hk.block k g m).trans n⟩
theorem St.froz {w0:World} {c0:Ze} (c:Nat) (h:St w0 c0 col w) (hc:c≠0) (h9:c≠999):St w0 c0 (Ya c col) w:=
 h.kpp (Zu.froz0 (p1 c) c (Zqf c) _ _) (Zqe (Ne.symm hc)) (Zqe (Ne.symm h9))
theorem St.recol {w0:World} {c0:Ze} (c d:Nat) (h:St w0 c0 col w) (hc:c≠0) (h9:c≠999):St w0 c0 (Xv c d col) w:=
 h.kpp (Zu.recol0 (p1 c) c d (Zqf c) _ _) (Zqe (Ne.symm hc)) (Zqe (Ne.symm h9))

def To (i:Nat) (F:Ze→World→Prop):Prop:=∀ {col w col' w'},F col w→w.heap.size≤w'.heap.size→X5 col w col' w'→(∀ k,k<w.heap.size→col k=i→col' k=i∧w'.heap[k]?=w.heap[k]?)→F col' w'

variable {F:Ze→World→Prop}
theorem To.kp (hl:To i F) (h:F col w) (hk:Yf c col w col' w') (hc:c≠0) (hi:i≠c):F col' w':=
 hl h hk.size (hk.stay hc) fun k b f=>⟨(hk.tint k b).trans f,hk.block k b (by rw [f];exact hi)⟩
theorem To.gr (hl:To i F) (h:F col w) (hg:Zj col w col' w'):F col' w':=hl.kp h (hg.keep (i+1)) (by omega) (by omega)
theorem To.kpp (hl:To i F) (h:F col w) (hk:Zu p col w col' w') (h0:p 0=false) (hi:p i=false):F col' w':=
 hl h hk.size (hk.stay h0) fun k f b=>⟨(hk.tint k f (by rw [b];exact hi)).trans b,hk.block k f (by rw [b];exact hi)⟩
theorem To.froz (hl:To i F) (c:Nat) (h:F col w) (hi:i≠c:=by decide):F (Ya c col) w:=
 hl h (aX _) (fun k _ f=>⟨by unfold Ya;split <;> simp_all,rfl⟩) fun k _ b=>⟨by rw [Zxj (by rw [b];exact hi),b],rfl⟩
theorem To.recol (hl:To i F) (c d:Nat) (hc:i≠c∧c≠0:=by decide) (h:F col w):F (Xv c d col) w:=
 hl h (aX _) (fun k _ b=>⟨by rw [Zfw (by rw [b];exact Ne.symm hc.2),b],rfl⟩) fun k _ f=>⟨by rw [Zfw (by rw [f];exact hc.1),f],rfl⟩
end

section
variable {α:Type} {r:Za α} {e c d i:Nat} {col col':Ze} {w w':World} {xs:List α} {a:Option Addr} {cap:Nat} {p:Nat→Bool} {bs:List Nat} {cs:List Value} {x:α}

theorem X9.loc (hlt:∀ b ∈ bs,b<w.heap.size) (h:X9 i col bs) (hk:∀ k,k<w.heap.size→col k=i→col' k=i∧w'.heap[k]?=w.heap[k]?):X9 i col' bs:=⟨h.1,fun b f=>(hk b (hlt b f) (h.2 b f)).1⟩
theorem Zb.loc:To i (fun col w=>Zb r e i col w a cap xs):=fun ⟨bs,f,g⟩ _ l j=>⟨bs,f.keep l fun b k=>(j b (f.lt b k) (g.2 b k)).2,g.loc f.lt j⟩
theorem Zd.loc {g:Nat} {cs:Array Value}:To i (fun col w=>Zd e i col w g cs):=fun h _ _ b=>by
 obtain ⟨f,j⟩:=b _ (Array.getElem?_eq_some_iff.1 h.2).1 h.1
 exact ⟨f,j.trans h.2⟩
theorem Zb.kpp (h:Zb r e i col w a cap xs) (hk:Zu p col w col' w') (h0:p 0=false:=by rfl) (hi:p i=false:=by rfl):Zb r e i col' w' a cap xs:=Zb.loc.kpp h hk h0 hi
theorem Zd.kpp {g:Nat} {cs:Array Value} (h:Zd e i col w g cs) (hk:Zu p col w col' w') (hi:p i=false:=by rfl):Zd e i col' w' g cs:=by
 have b:=(Array.getElem?_eq_some_iff.1 h.2).1
 exact ⟨(hk.tint g b (by rw [h.1];exact hi)).trans h.1,by rw [hk.block g b (by rw [h.1];exact hi)];exact h.2⟩
theorem Sl.kpp (h:Sl r col w a cap xs) (hk:Zu p col w col' w') (h0:p 0=false:=by rfl):Sl r col' w' a cap xs:=h.keep (hk.stay h0)

theorem X5.froz (c:Nat):X5 col w (Ya c col) w:=fun k _ h=>⟨by unfold Ya;split <;> simp_all,rfl⟩
theorem X5.recol (c d:Nat) (hc:c≠0):X5 col w (Xv c d col) w:=fun k _ h=>⟨by rw [Zfw (by rw [h];exact Ne.symm hc),h],rfl⟩
theorem Sl.froz (c:Nat) (h:Sl r col w a cap xs):Sl r (Ya c col) w a cap xs:=h.keep (X5.froz c)
theorem Sl.recol (c d:Nat) (hc:c≠0:=by decide) (h:Sl r col w a cap xs):Sl r (Xv c d col) w a cap xs:=h.keep (X5.recol c d hc)
theorem Zb.froz (c:Nat) (h:Zb r e i col w a cap xs) (hi:i≠c:=by decide):Zb r e i (Ya c col) w a cap xs:=Zb.loc.froz c h hi
theorem Zd.froz {g:Nat} {cs:Array Value} (c:Nat) (h:Zd e i col w g cs) (hi:i≠c:=by decide):Zd e i (Ya c col) w g cs:=Zd.loc.froz c h hi
theorem Zb.recol (c d:Nat) (hc:i≠c∧c≠0:=by decide) (h:Zb r e i col w a cap xs):Zb r e i (Xv c d col) w a cap xs:=Zb.loc.recol c d hc h
theorem Zd.recol {g:Nat} {cs:Array Value} (c d:Nat) (hc:i≠c∧c≠0:=by decide) (h:Zd e i col w g cs):Zd e i (Xv c d col) w g cs:=Zd.loc.recol c d hc h
theorem Zb.recolSelf (d:Nat) (hc:c≠0) (h:Zb r e c col w a cap xs):Zb r e d (Xv c d col) w a cap xs:=by
 obtain ⟨bs,g,f⟩:=h
 exact ⟨bs,g.keep (X5.recol c d hc) fun _ _=>rfl,f.1,fun b j=>Znu (f.2 b j)⟩
theorem Zb.toSlF {s:Za α} (hf:Zg r s) (h:Zb r e c col w a cap xs):Sl s (Ya c col) w a cap xs:=h.slF hf fun k b=>by unfold Ya;split <;> simp_all
end
end Go.Proofs.YthclpfhncgpnmaaGreat
