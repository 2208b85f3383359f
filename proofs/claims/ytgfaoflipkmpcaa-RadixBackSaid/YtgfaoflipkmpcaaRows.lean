/-
  No cell of these rows narrows 'for every input' (looked for: loops, veiled, ifaces, maps, wideKeys, modest, calm, conditions, laid).
  DERIVED. THE GIVEN ROWS OF THIS SEAT. 6 by the template 'for every input the law returns true; each argument reads behind the call as it read before'; 0 by the template 'total and deterministic' (their statements: YtgfaoflipkmpcaaTotals.lean).
  GIVEN WITH THE SEED: the statements are not yours to turn. If you find one false, say at which input.
  Laid BY PROGRAM, IN A SANDBOX (cutbox-rows.mjs): the forced cells as the released guide's own fill.sh prints them over the translation 64a1ce2b081fb23b… (all of the seat's roots in one cut). By AI agents, Wed Nov 11 2026. No macro, syntax, notation, axiom, sorry.
-/
import Derived.Test.YtgfaoflipkmpcaaChecked
import GoSem.Claim
import GoSem.ClaimJoined
import GoSem.ClaimMapViews
import Derived.JoinedTies
import Derived.KernelRfl
namespace Go.Proofs.Ytgfaoflipkmpcaa
/- THE CELL 'sum', in the pinned program and in every row, IS THE sha256 OF THE DUMP (.gsa) THAT YtgfaoflipkmpcaaProg.lean LOADS. Nothing in Lean hashes anything: it is a label: what it is worth is what the hold of that sum in a sandbox is worth. -/
noncomputable def Try.pinned : Pinned := { name := "ytgfaoflipkmpcaa", sum := "64a1ce2b081fb23bc0b6b89d1e48c910829fb5a6f00a65ec64539be2e065a375", checked := Try.checked }
namespace Rows
def none {H : Type} : Left H := { results := [], args := [] }

/-- 'credencelaw10.RadixAll': WHATEVER THE INPUT: true; the input reads as it did. -/
def radixAllSpec : ChangeSpec := { name := "radixAll", fn := fun _ => fun
  | [d1, d2] => { results := [.lit (.bool true)], args := [d1, d2] }
  | _ => none }
def radixAllRow : OpenClaim := { program := "ytgfaoflipkmpcaa", sum := "64a1ce2b081fb23bc0b6b89d1e48c910829fb5a6f00a65ec64539be2e065a375", func := "credence/credencelaw10.RadixAll", spec := "radixAll", unfollowed := true, recurses := true, apart := false }
def RadixAllSaid : Prop := radixAllRow.holds Try.pinned (OpenSpec.ofChange radixAllSpec)

/-- ITS FALSE NEIGHBOUR: 'it returns false'. Refute it at one input. -/
def radixAllWrong : ChangeSpec := { name := "radixAll", fn := fun _ => fun
  | [d1, d2] => { results := [.lit (.bool false)], args := [d1, d2] }
  | _ => none }
def RadixAllWrongFalsely : Prop := radixAllRow.holds Try.pinned (OpenSpec.ofChange radixAllWrong)

/-- 'credencelaw10.RadixNames': WHATEVER THE INPUT: true; the input reads as it did. -/
def radixNamesSpec : ChangeSpec := { name := "radixNames", fn := fun _ => fun
  | [] => { results := [.lit (.bool true)], args := [] }
  | _ => none }
def radixNamesRow : OpenClaim := { program := "ytgfaoflipkmpcaa", sum := "64a1ce2b081fb23bc0b6b89d1e48c910829fb5a6f00a65ec64539be2e065a375", func := "credence/credencelaw10.RadixNames", spec := "radixNames", unfollowed := true, recurses := true, apart := false }
def RadixNamesSaid : Prop := radixNamesRow.holds Try.pinned (OpenSpec.ofChange radixNamesSpec)

/-- ITS FALSE NEIGHBOUR: 'it returns false'. Refute it at one input. -/
def radixNamesWrong : ChangeSpec := { name := "radixNames", fn := fun _ => fun
  | [] => { results := [.lit (.bool false)], args := [] }
  | _ => none }
def RadixNamesWrongFalsely : Prop := radixNamesRow.holds Try.pinned (OpenSpec.ofChange radixNamesWrong)

/-- 'credencelaw10.RadixErrors': WHATEVER THE INPUT: true; the input reads as it did. -/
def radixErrorsSpec : ChangeSpec := { name := "radixErrors", fn := fun _ => fun
  | [] => { results := [.lit (.bool true)], args := [] }
  | _ => none }
def radixErrorsRow : OpenClaim := { program := "ytgfaoflipkmpcaa", sum := "64a1ce2b081fb23bc0b6b89d1e48c910829fb5a6f00a65ec64539be2e065a375", func := "credence/credencelaw10.RadixErrors", spec := "radixErrors", unfollowed := true, recurses := true, apart := false }
def RadixErrorsSaid : Prop := radixErrorsRow.holds Try.pinned (OpenSpec.ofChange radixErrorsSpec)

/-- ITS FALSE NEIGHBOUR: 'it returns false'. Refute it at one input. -/
def radixErrorsWrong : ChangeSpec := { name := "radixErrors", fn := fun _ => fun
  | [] => { results := [.lit (.bool false)], args := [] }
  | _ => none }
def RadixErrorsWrongFalsely : Prop := radixErrorsRow.holds Try.pinned (OpenSpec.ofChange radixErrorsWrong)

/-- 'credencelaw10.RadixAsked': WHATEVER THE INPUT: true; the input reads as it did. -/
def radixAskedSpec : ChangeSpec := { name := "radixAsked", fn := fun _ => fun
  | [d1, d2, d3] => { results := [.lit (.bool true)], args := [d1, d2, d3] }
  | _ => none }
def radixAskedRow : OpenClaim := { program := "ytgfaoflipkmpcaa", sum := "64a1ce2b081fb23bc0b6b89d1e48c910829fb5a6f00a65ec64539be2e065a375", func := "credence/credencelaw10.RadixAsked", spec := "radixAsked", unfollowed := true, recurses := true, apart := false }
def RadixAskedSaid : Prop := radixAskedRow.holds Try.pinned (OpenSpec.ofChange radixAskedSpec)

/-- ITS FALSE NEIGHBOUR: 'it returns false'. Refute it at one input. -/
def radixAskedWrong : ChangeSpec := { name := "radixAsked", fn := fun _ => fun
  | [d1, d2, d3] => { results := [.lit (.bool false)], args := [d1, d2, d3] }
  | _ => none }
def RadixAskedWrongFalsely : Prop := radixAskedRow.holds Try.pinned (OpenSpec.ofChange radixAskedWrong)

/-- 'credencelaw10.RadixBack': WHATEVER THE INPUT: true; the input reads as it did. -/
def radixBackSpec : ChangeSpec := { name := "radixBack", fn := fun _ => fun
  | [d1, d2] => { results := [.lit (.bool true)], args := [d1, d2] }
  | _ => none }
def radixBackRow : OpenClaim := { program := "ytgfaoflipkmpcaa", sum := "64a1ce2b081fb23bc0b6b89d1e48c910829fb5a6f00a65ec64539be2e065a375", func := "credence/credencelaw10.RadixBack", spec := "radixBack", unfollowed := true, recurses := true, apart := false }
def RadixBackSaid : Prop := radixBackRow.holds Try.pinned (OpenSpec.ofChange radixBackSpec)

/-- ITS FALSE NEIGHBOUR: 'it returns false'. Refute it at one input. -/
def radixBackWrong : ChangeSpec := { name := "radixBack", fn := fun _ => fun
  | [d1, d2] => { results := [.lit (.bool false)], args := [d1, d2] }
  | _ => none }
def RadixBackWrongFalsely : Prop := radixBackRow.holds Try.pinned (OpenSpec.ofChange radixBackWrong)

/-- 'credencelaw10.RadixJoin': WHATEVER THE INPUT: true; the input reads as it did. -/
def radixJoinSpec : ChangeSpec := { name := "radixJoin", fn := fun _ => fun
  | [d1, d2, d3, d4] => { results := [.lit (.bool true)], args := [d1, d2, d3, d4] }
  | _ => none }
def radixJoinRow : OpenClaim := { program := "ytgfaoflipkmpcaa", sum := "64a1ce2b081fb23bc0b6b89d1e48c910829fb5a6f00a65ec64539be2e065a375", func := "credence/credencelaw10.RadixJoin", spec := "radixJoin", unfollowed := true, recurses := true, apart := false }
def RadixJoinSaid : Prop := radixJoinRow.holds Try.pinned (OpenSpec.ofChange radixJoinSpec)

/-- ITS FALSE NEIGHBOUR: 'it returns false'. Refute it at one input. -/
def radixJoinWrong : ChangeSpec := { name := "radixJoin", fn := fun _ => fun
  | [d1, d2, d3, d4] => { results := [.lit (.bool false)], args := [d1, d2, d3, d4] }
  | _ => none }
def RadixJoinWrongFalsely : Prop := radixJoinRow.holds Try.pinned (OpenSpec.ofChange radixJoinWrong)

/- THE SECOND FORM. 'bulk': how many values and letters a reading holds, each counted each time it is reached (what is shared counts as often as it is met; a slice's spare places count too). A statement '..UptoSaid' is the law's where the arguments, and the package variables that the reading takes, are together of bulk at most 1048576: NARROWER than '..Said'. Prove '..Said' where nothing that the law and all that it calls make is longer than what came in: it says more and counts as full. Else prove '..UptoSaid'. A law counts once. -/
mutual
def uptoBulk {H : Type} : DataW H → Nat
  | .lit (.string bytes) => bytes.length + 1
  | .lit _ => 1
  | .nil => 1
  | .ptr d => uptoBulk d + 1
  | .slice elems spare => uptoBulkAll elems + uptoBulkAll spare + 1
  | .agg parts => uptoBulkAll parts + 1
  | .iface _ d => uptoBulk d + 1
  | .map entries => uptoBulkEntries entries + 1
  | .held _ => 1
def uptoBulkAll {H : Type} : List (DataW H) → Nat
  | [] => 0
  | d :: r => uptoBulk d + uptoBulkAll r
def uptoBulkEntries {H : Type} : List (Lit × DataW H) → Nat
  | [] => 0
  | x :: r => uptoBulkEntry x + uptoBulkEntries r
def uptoBulkEntry {H : Type} : Lit × DataW H → Nat
  | (.string bytes, d) => bytes.length + uptoBulk d + 1
  | (_, d) => uptoBulk d + 1
 end
def uptoSmall : (H : Type) → List (DataW H) → Bool := fun _ ds => decide (uptoBulkAll ds ≤ 1048576)
def OpenSpec.upto (s : _root_.Go.ChangeSpec) : _root_.Go.OpenSpec := { _root_.Go.OpenSpec.ofChange s with cond := some uptoSmall }

/-- 'credencelaw10.RadixAll', WHERE WHAT IT READS IS OF BULK AT MOST 1048576: true; the input reads as it did. -/
def radixAllUptoRow : OpenClaim := { program := "ytgfaoflipkmpcaa", sum := "64a1ce2b081fb23bc0b6b89d1e48c910829fb5a6f00a65ec64539be2e065a375", func := "credence/credencelaw10.RadixAll", spec := "radixAll", unfollowed := true, recurses := true, apart := false, narrowed := true }
def RadixAllUptoSaid : Prop := radixAllUptoRow.holds Try.pinned (OpenSpec.upto radixAllSpec)

/-- 'credencelaw10.RadixNames', WHERE WHAT IT READS IS OF BULK AT MOST 1048576: true; the input reads as it did. -/
def radixNamesUptoRow : OpenClaim := { program := "ytgfaoflipkmpcaa", sum := "64a1ce2b081fb23bc0b6b89d1e48c910829fb5a6f00a65ec64539be2e065a375", func := "credence/credencelaw10.RadixNames", spec := "radixNames", unfollowed := true, recurses := true, apart := false, narrowed := true }
def RadixNamesUptoSaid : Prop := radixNamesUptoRow.holds Try.pinned (OpenSpec.upto radixNamesSpec)

/-- 'credencelaw10.RadixErrors', WHERE WHAT IT READS IS OF BULK AT MOST 1048576: true; the input reads as it did. -/
def radixErrorsUptoRow : OpenClaim := { program := "ytgfaoflipkmpcaa", sum := "64a1ce2b081fb23bc0b6b89d1e48c910829fb5a6f00a65ec64539be2e065a375", func := "credence/credencelaw10.RadixErrors", spec := "radixErrors", unfollowed := true, recurses := true, apart := false, narrowed := true }
def RadixErrorsUptoSaid : Prop := radixErrorsUptoRow.holds Try.pinned (OpenSpec.upto radixErrorsSpec)

/-- 'credencelaw10.RadixAsked', WHERE WHAT IT READS IS OF BULK AT MOST 1048576: true; the input reads as it did. -/
def radixAskedUptoRow : OpenClaim := { program := "ytgfaoflipkmpcaa", sum := "64a1ce2b081fb23bc0b6b89d1e48c910829fb5a6f00a65ec64539be2e065a375", func := "credence/credencelaw10.RadixAsked", spec := "radixAsked", unfollowed := true, recurses := true, apart := false, narrowed := true }
def RadixAskedUptoSaid : Prop := radixAskedUptoRow.holds Try.pinned (OpenSpec.upto radixAskedSpec)

/-- 'credencelaw10.RadixBack', WHERE WHAT IT READS IS OF BULK AT MOST 1048576: true; the input reads as it did. -/
def radixBackUptoRow : OpenClaim := { program := "ytgfaoflipkmpcaa", sum := "64a1ce2b081fb23bc0b6b89d1e48c910829fb5a6f00a65ec64539be2e065a375", func := "credence/credencelaw10.RadixBack", spec := "radixBack", unfollowed := true, recurses := true, apart := false, narrowed := true }
def RadixBackUptoSaid : Prop := radixBackUptoRow.holds Try.pinned (OpenSpec.upto radixBackSpec)

/-- 'credencelaw10.RadixJoin', WHERE WHAT IT READS IS OF BULK AT MOST 1048576: true; the input reads as it did. -/
def radixJoinUptoRow : OpenClaim := { program := "ytgfaoflipkmpcaa", sum := "64a1ce2b081fb23bc0b6b89d1e48c910829fb5a6f00a65ec64539be2e065a375", func := "credence/credencelaw10.RadixJoin", spec := "radixJoin", unfollowed := true, recurses := true, apart := false, narrowed := true }
def RadixJoinUptoSaid : Prop := radixJoinUptoRow.holds Try.pinned (OpenSpec.upto radixJoinSpec)

end Rows
end Go.Proofs.Ytgfaoflipkmpcaa
