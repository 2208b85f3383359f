/-
  The library's sort of a row of integers: its contract in the words of the printed proofs. Over any program.
-/
import Derived.Test.YthclpfhncgpnmaaGreatJointTableBMore
import Derived.Sort.OwnSortedInts
namespace Go.Proofs.YthclpfhncgpnmaaGreat
open Go Go.RowKit Go.Sort
open List renaming pairwise_cons→cZ,mem_cons→aP
open Go.IntKind (i8 i16 i32 i64 u8 u16 u32 u64)

def Uu (x:Int):List Int→List Int
 | []=>[x]
 | y :: l=>if x≤y then x :: y :: l else y :: Uu x l
def Wn (xs:List Int):List Int:=xs.foldr Uu []
theorem Zkh (x:Int):∀ l:List Int,(Uu x l).Perm (x :: l)
 | []=>.refl _
 | y :: l=>by
  unfold Uu;split
  ·exact .refl _
  ·exact ((Zkh x l).cons y).trans (.swap _ _ _)
theorem Zki:∀ l:List Int,(Wn l).Perm l
 | []=>.refl _
 | x :: l=>(Zkh x (Wn l)).trans ((Zki l).cons x)
theorem Zqx (x:Int):∀ {l:List Int},l.Pairwise (· ≤·)→(Uu x l).Pairwise (· ≤·)
 | [],_=>by simp [Uu]
 | y :: l,h=>by
  have c:=cZ.1 h
  unfold Uu;split
  ·rename_i b
   exact cZ.2 ⟨fun z a=>by rcases aP.1 a with rfl | a;exact b;exact Int.le_trans b (c.1 z a),h⟩
  ·rename_i b
   refine cZ.2 ⟨fun z a=>?_,Zqx x c.2⟩
   rcases aP.1 ((Zkh x l).mem_iff.1 a) with rfl | a
   ·omega
   ·exact c.1 z a
theorem Zvr:∀ l:List Int,(Wn l).Pairwise (· ≤·)
 | []=>.nil
 | x :: l=>Zqx x (Zvr l)
theorem Zvq {l s:List Int} (h:s.Perm l) (hs:s.Pairwise (· ≤·)):Wn l=s:=
 List.Perm.eq_of_pairwise (fun _ _ _ _ a b=>Int.le_antisymm a b) (Zvr l) hs ((Zki l).trans h.symm)
theorem Z7q (l:List Int):(l.mergeSort fun x y=>decide (x≤y))=Wn l:=by
 symm
 refine Zvq (List.mergeSort_perm l _) ?_
 have:=List.pairwise_mergeSort (le:=fun x y:Int=>decide (x≤y)) (by intro a b c;simp only [decide_eq_true_eq];omega) (by intro a b;simp only [Bool.or_eq_true,decide_eq_true_eq];omega) l
 exact this.imp fun h=>by simpa using h
def Zno (xs:List Int):Option (List Int):=Zt (xs.length<4611686018427387904) (some (Wn xs))

theorem Z0t {k:IntKind} {col:Zd} {w:World}:∀ {xs:List Int} {fl:List Value} {bs:List Nat},Rows (Za.int k) col w fl xs bs→fl=xs.map (Value.int k)∧bs=[]
 | [],_,_,h=>h
 | x :: xs,_,_,⟨b,i,c,j,h,d,a,e⟩=>by
  have a:b=[.int k x]∧c=[]:=a
  obtain ⟨f,g⟩:=Z0t e
  rw [h,d,a.1,a.2,f,g];exact ⟨rfl,rfl⟩
theorem Z0u {k:IntKind} {col:Zd} {w:World}:∀ (xs:List Int),Rows (Za.int k) col w (xs.map (Value.int k)) xs []
 | []=>⟨rfl,rfl⟩
 | x :: xs=>⟨[.int k x],_,[],[],rfl,rfl,⟨rfl,rfl⟩,Z0u xs⟩

theorem Z91 {P:Program} {k:FuncId} {e:TypeId}
  (hs:∀ (blk off cap:Nat) (zs:List Int) (w:World),Holds (Value.int .i64) w blk off zs.toArray→blk<w.heap.size→zs.length<4611686018427387904→Calls P k #[.slice (some ⟨blk,off,none⟩) zs.length cap] w fun e w'=>
   e= .returned (.tuple #[])∧∃ n os,w'=grow (putRow (Value.int .i64) (Sort.ahead w n) blk off (zs.mergeSort fun x y=>decide (x≤y)).toArray) os)
  (hn:∀ (p:Option Addr) cap w,Calls P k #[.slice p 0 cap] w fun e w'=>e= .returned (.tuple #[])∧w'=w)
  (col:Zd) (w0:World) (q0:Nat) (_:Tm [q0]=true) (a0:Option Addr) (cap0:Nat) (xs:List Int) (h0:Zc (Za.int .i64) e q0 col w0 a0 cap0 xs) (r:List Int) (hm:Zno xs=some r):
  Calls P k #[.slice a0 xs.length cap0] w0 fun e' w'=>∃ (col':Zd),e'= .returned (.tuple #[])∧Z5 (pS [q0]) col w0 col' w'∧Zc (Za.int .i64) e q0 col' w' a0 cap0 r∧r.length=xs.length:=by
 obtain ⟨t,hm⟩:=Zv hm
 cases hm
 rw [← Z7q]
 obtain ⟨C,⟨D,E,f,u,rfl⟩,d⟩:=h0
 obtain ⟨rfl,rfl⟩:=Z0t u
 rcases f.2 with ⟨j,b⟩ | ⟨g,cap,B,j,F,c,l,m,o,v⟩
 ·have:xs=[]:=List.length_eq_zero_iff.1 b
  subst this
  refine (hn a0 cap0 w0).mono ?_
  rintro e' w' ⟨rfl,rfl⟩
  rw [show ([]:List Int).mergeSort (fun x y=>decide (x≤y))=[] from List.mergeSort_nil]
  exact ⟨col,rfl,Z5.refl _ _ _,⟨_,⟨_,[],f,⟨rfl,rfl⟩,rfl⟩,d⟩,rfl⟩
 ·cases j
  have q:col g=q0:=d.2 g (by simp [Value.ownBlock])
  have b:(xs.mergeSort fun x y=>decide (x≤y)).length=xs.length:=List.length_mergeSort xs
  refine (hs g 0 cap0 xs w0 (holds_of_blockI c (by rw [← v];show _=List.take (xs.length * 1) _;rw [Nat.mul_one])) (Array.getElem?_eq_some_iff.1 c).1 t).mono ?_
  rintro e' w' ⟨rfl,n,os,rfl⟩
  have a:=grownBy_sortedI (w:=w0) (g:=g) (n:=n) (os:=os) (xs.mergeSort fun x y=>decide (x≤y)).toArray
  refine ⟨col,rfl,⟨a.size,fun _ _ _=>rfl,fun i A s=>a.block i A fun h=>?_,⟨a.os,a.tape,a.output⟩⟩,⟨_,⟨_,[],?_,Z0u _,?_⟩,d⟩,b⟩
  ·cases h;rw [q] at s;simp [pS] at s
  ·rw [b];exact ownsRow_sortedI b (Nat.zero_le _) c l m o
  ·rfl
end Go.Proofs.YthclpfhncgpnmaaGreat
