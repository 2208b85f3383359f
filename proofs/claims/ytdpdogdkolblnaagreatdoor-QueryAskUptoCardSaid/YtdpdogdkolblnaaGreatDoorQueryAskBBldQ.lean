/-
  The library's Builder as the first part of a variable, and Join: their contracts, over this program.
-/
import Derived.Test.YtdpdogdkolblnaaGreatDoorQueryAskBBld
import Derived.Test.YtdpdogdkolblnaaGreatDoorQueryAskBLexP
import Derived.Test.YtdpdogdkolblnaaGreatDoorQueryAskBThree
import Derived.Test.YtdpdogdkolblnaaGreatDoorProg
import Derived.Test.YtdpdogdkolblnaaGreatDoorShelf
import Derived.Shelf.RegionOpenPlain
import Derived.WalkKit
import Derived.Laws.Externs
import Derived.Lib.Strings
import Derived.Lib.Join
set_option linter.unusedVariables false
set_option maxRecDepth 100000
set_option maxHeartbeats 2000000
namespace Go.Proofs.YtdpdogdkolblnaaGreatDoor
open Go Go.RowKit
open Go.IntKind (i8 i16 i32 i64 u8 u16 u32 u64)
open Go.Proofs.Tryz
def Znd {α:Type} (p:(Bool×List Int)×α):Option ((Bool×List Int)×α):=some ((true,p.1.2),p.2)
theorem Zwr (col:Zd) (w0:World) (qc0:Nat) (qc1:Nat) (hd:Yk [qc0,qc1]=true) (g0:Nat) (p:((Bool×List Int)×Int×Bool)) (a:Option Addr) (cap:Nat) (h0:Zc (Za.int .u8) 5 qc1 col w0 a cap p.1.2) (hb0:Ze 84 qc0 col w0 g0 #[.pointer (bif p.1.1 then some ⟨g0,0,none⟩ else none),.slice a p.1.2.length cap,.int .i64 p.2.1,.bool p.2.2]) (r:((Bool×List Int)×Int×Bool)) (hm:Znd p=some r):
  Calls prog 68 #[.pointer (some ⟨g0,0,none⟩)] w0 (fun e w'=>∃ (col':Zd) (oa1:Option Addr) (oc2:Nat),e= .returned (.tuple #[])∧Zs (pS [qc0,qc1]) col w0 col' w'∧Zc (Za.int .u8) 5 qc1 col' w' oa1 oc2 r.1.2∧Ze 84 qc0 col' w' g0 #[.pointer (bif r.1.1 then some ⟨g0,0,none⟩ else none),.slice oa1 r.1.2.length oc2,.int .i64 r.2.1,.bool r.2.2]):=by
 obtain ⟨n0,n1,n2⟩:=Zqr hd
 have hr:((true,p.1.2),p.2)=r:=Option.some.inj hm
 subst hr
 have hlt:=(Array.getElem?_eq_some_iff.1 hb0.2).1
 cases hp:p.1.1 with
 | true=>
  rw [hp] at hb0
  refine (Zqb g0 w0 (by rw [Lib.cell_of_heap hb0.2];rfl)).mono ?_
  rintro e w' ⟨rfl,rfl⟩
  exact ⟨col,a,cap,rfl,⟨Nat.le_refl _,fun _ _ _=>rfl,fun _ _ _=>rfl,⟨rfl,rfl,rfl⟩⟩,h0,hb0⟩
 | false=>
  rw [hp] at hb0
  have hb:w0.heap[g0]?=some (.cells #[.pointer none,.slice a p.1.2.length cap,.int .i64 p.2.1,.bool p.2.2] 84 (0,0)):=hb0.2
  refine (Zqa (e:=84) (n:=4) g0 w0 (by rw [Lib.cell_of_heap hb];rfl) (by simp [World.shape?,hb]) (by decide) (by kernel_rfl) (Lib.frozen_of_heap hb 0)).mono ?_
  rintro e w' ⟨rfl,rfl⟩
  have hk:Xe qc0 col w0 col (w0.setCell ⟨g0,0,none⟩ (.pointer (some ⟨g0,0,none⟩))):=by
   refine ⟨by simp [World.setCell],fun _ _=>rfl,fun k hk hck=>?_⟩
   have hne:g0≠k:=fun e=>hck (by rw [← e];exact hb0.1)
   simp [World.setCell,Array.getElem?_modify,hne]
  refine ⟨col,a,cap,rfl,⟨hk.size,fun _ _ _=>rfl,fun k hk1 hp=>hk.block k hk1 fun e=>?_,⟨rfl,rfl,rfl⟩⟩,h0.kp hk n0 (fun e=>n2 e.symm),hb0.1,?_⟩
  ·rw [e] at hp;simp [pS] at hp
  ·simp [World.setCell,Array.getElem?_modify,hb]
def Znf {α:Type} (p:(Bool×List Int)×α):Option ByteArray:=Zr (∀ x ∈ p.1.2,0≤x∧x<256) (some (Zac p.1.2))
theorem Zwx (col:Zd) (w0:World) (qc0:Nat) (qc1:Nat) (hd:Yk [qc0,qc1]=true) (g0:Nat) (p:((Bool×List Int)×Int×Bool)) (a:Option Addr) (cap:Nat) (h0:Zc (Za.int .u8) 5 qc1 col w0 a cap p.1.2) (hb0:Ze 84 qc0 col w0 g0 #[.pointer (bif p.1.1 then some ⟨g0,0,none⟩ else none),.slice a p.1.2.length cap,.int .i64 p.2.1,.bool p.2.2]) (r:ByteArray) (hm:Znf p=some r):
  Calls prog 36 #[.pointer (some ⟨g0,0,none⟩)] w0 (fun e w'=>∃ (col':Zd),e= .returned ((.string r))∧Zs (pS [qc0,qc1]) col w0 col' w'):=by
 obtain ⟨hc,hr⟩:=Zt hm
 have hr:Zac p.1.2=r:=Option.some.inj hr
 subst hr
 refine (Zu4 hb0 rfl h0 hc).mono ?_
 rintro e w' ⟨rfl,hk⟩
 have hp:∀ k,p2 qc0 qc1 k=pS [qc0,qc1] k:=fun k=>by simp only [pS,p2,List.any_cons,List.any_nil,Bool.or_false]
 exact ⟨col,rfl,hk.size,fun k h1 h2=>hk.tint k h1 ((hp _).trans h2),fun k h1 h2=>hk.block k h1 ((hp _).trans h2),hk.still⟩
def Zrj (xs:List ByteArray) (sep:ByteArray):ByteArray:=⟨(Lib.join (xs.map (·.data.toList)) sep.data.toList).toArray⟩
def Zjl (xs:List ByteArray) (sep:ByteArray):Option ByteArray:=Zr ((Lib.join (xs.map (·.data.toList)) sep.data.toList).length≤140737488355328∧xs.length≤140737488355328) (some (Zrj xs sep))
theorem Zuv {col:Zd} {w:World}:∀ {xs:List ByteArray} {fl:List Value} {bs:List Nat},Rows Za.str col w fl xs bs→fl=xs.map Value.string
 | [],_,_,h=>h.1
 | x :: xs,_,_,⟨cs,fl',b1,b2,h,hb,h1,h2⟩=>by
  have h1:cs=[.string x]∧b1=[]:=h1
  rw [h,h1.1,Zuv h2];rfl
theorem Z0w (col:Zd) (w0:World) (a0:Option Addr) (cap0:Nat) (xs:List ByteArray) (sep:ByteArray) (h0:Sl Za.str col w0 a0 cap0 xs) (r:ByteArray) (hm:Zjl xs sep=some r):
  Calls prog 51 #[.slice a0 xs.length cap0,.string sep] w0 (fun e w'=>e= .returned ((.string r))∧Below w0.heap.size w0 w'):=by
 obtain ⟨hc,hr⟩:=Zt hm
 have hr:Zrj xs sep=r:=Option.some.inj hr
 subst hr
 rcases h0.2 with rfl | ⟨b,off,fl,rfl,hb,hrw,hx⟩
 ·refine (Tryz.strings_Join_none a0 cap0 sep w0).mono ?_
  rintro e w' ⟨rfl,rfl⟩
  exact ⟨rfl,Below.refl _ _⟩
 ·by_cases hn:xs=[]
  ·subst hn
   refine (Tryz.strings_Join_none _ cap0 sep w0).mono ?_
   rintro e w' ⟨rfl,rfl⟩
   exact ⟨rfl,Below.refl _ _⟩
  ·have hfl:=Zuv hrw
   subst hfl
   have hcells:∀ (j:Nat) x,xs[j]?=some x→w0.cell? ⟨b,off+j,none⟩=some (.string x):=fun j x hj=>hx j _ (by rw [List.getElem?_map,hj];rfl)
   obtain ⟨x,l,rfl⟩:=List.exists_cons_of_ne_nil hn
   exact Tryz.strings_Join b off cap0 (x :: l) sep w0 hcells (World.block_lt_of_cell? w0 _ (hcells 0 x rfl)) hc.2 h0.1.2 hc.1
end Go.Proofs.YtdpdogdkolblnaaGreatDoor
