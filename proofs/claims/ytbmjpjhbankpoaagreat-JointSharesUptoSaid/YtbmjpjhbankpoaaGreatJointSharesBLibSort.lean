/-
  The library's sort of a row of integers: its contract in the words of the printed proofs. Over any program.
-/
import Derived.Test.YtbmjpjhbankpoaaGreatJointSharesBMore
import Derived.Sort.OwnSortedInts
namespace Go.Proofs.YtbmjpjhbankpoaaGreat
open Go Go.RowKit Go.Sort
open Go.IntKind (i8 i16 i32 i64 u8 u16 u32 u64)

def Zcw (x:Int):List Int→List Int
 | []=>[x]
 | y :: l=>if x≤y then x :: y :: l else y :: Zcw x l
def X9 (xs:List Int):List Int:=xs.foldr Zcw []
theorem Zna (x:Int):∀ l:List Int,(Zcw x l).Perm (x :: l)
 | []=>.refl _
 | y :: l=>by
  unfold Zcw;split
  ·exact .refl _
  ·exact ((Zna x l).cons y).trans (.swap _ _ _)
theorem Zg3:∀ l:List Int,(X9 l).Perm l
 | []=>.refl _
 | x :: l=>(Zna x (X9 l)).trans ((Zg3 l).cons x)
theorem Zrj (x:Int):∀ {l:List Int},l.Pairwise (· ≤·)→(Zcw x l).Pairwise (· ≤·)
 | [],_=>by simp [Zcw]
 | y :: l,h=>by
  have h1:=List.pairwise_cons.1 h
  unfold Zcw;split
  ·rename_i hxy
   exact List.pairwise_cons.2 ⟨fun z hz=>by rcases List.mem_cons.1 hz with rfl | hz;exact hxy;exact Int.le_trans hxy (h1.1 z hz),h⟩
  ·rename_i hxy
   refine List.pairwise_cons.2 ⟨fun z hz=>?_,Zrj x h1.2⟩
   rcases List.mem_cons.1 ((Zna x l).mem_iff.1 hz) with rfl | hz
   ·omega
   ·exact h1.1 z hz
theorem Znb:∀ l:List Int,(X9 l).Pairwise (· ≤·)
 | []=>.nil
 | x :: l=>Zrj x (Znb l)
theorem Zrn {l s:List Int} (h:s.Perm l) (hs:s.Pairwise (· ≤·)):X9 l=s:=
 List.Perm.eq_of_pairwise (fun _ _ _ _ h1 h2=>Int.le_antisymm h1 h2) (Znb l) hs ((Zg3 l).trans h.symm)
theorem Z0o (l:List Int):(l.mergeSort fun x y=>decide (x≤y))=X9 l:=by
 symm
 refine Zrn (List.mergeSort_perm l _) ?_
 have:=List.pairwise_mergeSort (le:=fun x y:Int=>decide (x≤y)) (by intro a b c;simp only [decide_eq_true_eq];omega) (by intro a b;simp only [Bool.or_eq_true,decide_eq_true_eq];omega) l
 exact this.imp fun h=>by simpa using h
def Zj7 (xs:List Int):Option (List Int):=Zz (xs.length<4611686018427387904) (some (X9 xs))

theorem Zoo {k:IntKind} {col:Zd} {w:World}:∀ {xs:List Int} {fl:List Value} {bs:List Nat},Rows (Za.int k) col w fl xs bs→fl=xs.map (Value.int k)∧bs=[]
 | [],_,_,h=>h
 | x :: xs,_,_,⟨cs,fl',b1,b2,h,hb,h1,h2⟩=>by
  have h1:cs=[.int k x]∧b1=[]:=h1
  obtain ⟨h3,h4⟩:=Zoo h2
  rw [h,hb,h1.1,h1.2,h3,h4];exact ⟨rfl,rfl⟩
theorem Zvb {k:IntKind} {col:Zd} {w:World}:∀ (xs:List Int),Rows (Za.int k) col w (xs.map (Value.int k)) xs []
 | []=>⟨rfl,rfl⟩
 | x :: xs=>⟨[.int k x],_,[],[],rfl,rfl,⟨rfl,rfl⟩,Zvb xs⟩

theorem Z2r {P:Program} {k:FuncId} {e:TypeId}
  (hs:∀ (blk off cap:Nat) (zs:List Int) (w:World),Holds (Value.int .i64) w blk off zs.toArray→blk<w.heap.size→zs.length<4611686018427387904→Calls P k #[.slice (some ⟨blk,off,none⟩) zs.length cap] w fun e w'=>
   e= .returned (.tuple #[])∧∃ n os,w'=grow (putRow (Value.int .i64) (Sort.ahead w n) blk off (zs.mergeSort fun x y=>decide (x≤y)).toArray) os)
  (hn:∀ (p:Option Addr) cap w,Calls P k #[.slice p 0 cap] w fun e w'=>e= .returned (.tuple #[])∧w'=w)
  (col:Zd) (w0:World) (q0:Nat) (_:Te [q0]=true) (a0:Option Addr) (cap0:Nat) (xs:List Int) (h0:Zc (Za.int .i64) e q0 col w0 a0 cap0 xs) (r:List Int) (hm:Zj7 xs=some r):
  Calls P k #[.slice a0 xs.length cap0] w0 fun e' w'=>∃ (col':Zd),e'= .returned (.tuple #[])∧Zx (pS [q0]) col w0 col' w'∧Zc (Za.int .i64) e q0 col' w' a0 cap0 r∧r.length=xs.length:=by
 obtain ⟨hb,hm⟩:=Z3 hm
 cases hm
 rw [← Z0o]
 obtain ⟨bs,⟨fl,b2,h1,h2,rfl⟩,h3⟩:=h0
 obtain ⟨rfl,rfl⟩:=Zoo h2
 rcases h1.2 with ⟨hv,hl⟩ | ⟨g,cap,cur,hv,hg,hbk,hc1,hc2,hc3,ht⟩
 ·have:xs=[]:=List.length_eq_zero_iff.1 hl
  subst this
  refine (hn a0 cap0 w0).mono ?_
  rintro e' w' ⟨rfl,rfl⟩
  rw [show ([]:List Int).mergeSort (fun x y=>decide (x≤y))=[] from List.mergeSort_nil]
  exact ⟨col,rfl,Zx.refl _ _ _,⟨_,⟨_,[],h1,⟨rfl,rfl⟩,rfl⟩,h3⟩,rfl⟩
 ·cases hv
  have hgb:col g=q0:=h3.2 g (by simp [Value.ownBlock])
  have hl:(xs.mergeSort fun x y=>decide (x≤y)).length=xs.length:=List.length_mergeSort xs
  refine (hs g 0 cap0 xs w0 (holds_of_blockI hbk (by rw [← ht];show _=List.take (xs.length * 1) _;rw [Nat.mul_one])) (Array.getElem?_eq_some_iff.1 hbk).1 hb).mono ?_
  rintro e' w' ⟨rfl,n,os,rfl⟩
  have hgr:=grownBy_sortedI (w:=w0) (g:=g) (n:=n) (os:=os) (xs.mergeSort fun x y=>decide (x≤y)).toArray
  refine ⟨col,rfl,⟨hgr.size,fun _ _ _=>rfl,fun i hi hp=>hgr.block i hi fun h=>?_,⟨hgr.os,hgr.tape,hgr.output⟩⟩,⟨_,⟨_,[],?_,Zvb _,?_⟩,h3⟩,hl⟩
  ·cases h;rw [hgb] at hp;simp [pS] at hp
  ·rw [hl];exact ownsRow_sortedI hl (Nat.zero_le _) hbk hc1 hc2 hc3
  ·rfl
end Go.Proofs.YtbmjpjhbankpoaaGreat
