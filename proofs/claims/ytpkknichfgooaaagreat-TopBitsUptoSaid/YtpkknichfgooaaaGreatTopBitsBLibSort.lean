/-
  The library's sort of a row of integers: its contract in the words of the printed proofs. Over any program.
-/
import Derived.Test.YtpkknichfgooaaaGreatTopBitsBMore
import Derived.Sort.OwnSortedInts
namespace Go.Proofs.YtpkknichfgooaaaGreat
open Go Go.RowKit Go.Sort
open Go.IntKind (i8 i16 i32 i64 u8 u16 u32 u64)

theorem Z1b {k:IntKind} {col:Zg} {w:World}:∀ {xs:List Int} {fl:List Value} {bs:List Nat},Rows (Zc.int k) col w fl xs bs→fl=xs.map (Value.int k)∧bs=[]
 | [],_,_,h=>h
 | x :: xs,_,_,⟨b,i,c,j,h,d,a,e⟩=>by
  have a:b=[.int k x]∧c=[]:=a
  obtain ⟨f,g⟩:=Z1b e
  rw [h,d,a.1,a.2,f,g];exact ⟨rfl,rfl⟩
end Go.Proofs.YtpkknichfgooaaaGreat
